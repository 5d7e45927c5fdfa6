/- Typed abstract walk, part 8: each operation does what the walk says (3): addresses, slices, new blocks. -/
import Derived.Test.YtbbpiihbhdagnaaT7
namespace Go.Proofs.Ytbbpiihbhdagnaa
set_option linter.unusedVariables false
set_option linter.unusedSimpArgs false
open Go.RowKit
namespace T
section
variable {P : Program} {B : Nat} {M : Nat → Prop} {hp lh : Hp} {ψ : Nat → Value} {w w' : World} {fr : Nat} {C : List Ent} {o : Oper} {a : Act}
theorem fieldOk_spec {T : TypeId} {f off : Nat} {t : Ty} (h : fieldOk P T f off t = true) : ∃ fs x, P.underlying T = some (.struct fs) ∧ fs[f]? = some x ∧ x.offset = off ∧ tyOk P x.type t = true ∧ t.size ≠ 0 := by
  unfold fieldOk at h
  split at h
  · rename_i fs hu
    split at h
    · rename_i x hx
      simp only [Bool.and_eq_true, beq_iff_eq, bne_iff_ne] at h
      exact ⟨fs, x, hu, hx, h.1.1, h.1.2, h.2⟩
    · cases h
  · cases h
theorem elemIs_spec {T : TypeId} {t : Ty} (h : elemIs P T t = true) : ∃ e, P.underlying T = some (.slice e) ∧ (P.info? e).map (·.size) = some t.size ∧ (sizeOf e).run P w = .ok t.size w := by
  unfold elemIs at h
  split at h
  · rename_i e hu
    simp only [beq_iff_eq] at h
    refine ⟨e, hu, h, ?_⟩
    obtain ⟨i, hi, hs⟩ := Option.map_eq_some_iff.1 h
    simp [sizeOf, typeInfo, hi, hs]
  · cases h
theorem elemOk_spec {T e : TypeId} {t : Ty} (h : elemOk P T e t = true) : P.underlying T = some (.slice e) ∧ ∃ i, P.info? e = some i ∧ i.size = t.size := by
  unfold elemOk at h
  simp only [Bool.and_eq_true, beq_iff_eq] at h
  obtain ⟨h1, h2⟩ := h
  split at h1
  · rename_i e' hu
    simp only [beq_iff_eq] at h1
    subst h1
    obtain ⟨i, hi, hs⟩ := Option.map_eq_some_iff.1 h2
    exact ⟨hu, i, hi, hs⟩
  · cases h1
/-- A part of an aggregate. -/
theorem run_part_of {T : TypeId} {t : Ty} (hT : tyOk P T t = true) {pre cc post : List Value} {cs : Array Value} (e : cs.toList = pre ++ cc ++ post) (hl : cc.length = t.size) :
    (t.isSt = true → (part T cs pre.length).run P w = .ok (.agg cc.toArray) w) ∧ (t.isSt = false → ∀ u, cc = [u] → (part T cs pre.length).run P w = .ok u w) := by
  constructor
  · intro hs
    obtain ⟨fs, hu, hi⟩ := tyOk_st hT hs
    obtain ⟨i, hi', his⟩ := Option.map_eq_some_iff.1 hi
    have hx : cs.extract pre.length (pre.length + t.size) = cc.toArray := by
      apply Array.ext'
      rw [Array.toList_extract, e]
      simp [List.extract_eq_take_drop, ← hl]
    simp [part, isAgg, run_underlying hu, sizeOf, typeInfo, hi', his, hx]
  · intro hs u hcc
    subst hcc
    obtain ⟨h1, h2, h3⟩ := tyOk_one (w := w) hT hs
    have : cs[pre.length]? = some u := by
      rw [← Array.getElem?_toList, e]; simp
    simp [part, h2, this]
theorem field_ok {T : TypeId} {f off : Nat} {t : Ty} {X : Operand} {x av : AV} (ho : o.op = .field T X f) (hT : fieldOk P T f off t = true)
    (hX : AVR P hp ψ w (Mu M hp ψ) x (a.eval X)) (h : fieldx off t x = some av) (c : Ctx P B M hp ψ w fr) : Does P o a w (OpPost P B M hp ψ w fr (pur av)) := by
  obtain ⟨fs, fx, hu, hfx, hoff, hty, hsz⟩ := fieldOk_spec hT
  have fin : ∀ (cs : Array Value) pre cc post, a.eval X = .agg cs → cs.toList = pre ++ cc ++ post → pre.length = off → cc.length = t.size → (t.isSt = true → AVR P hp ψ w (Mu M hp ψ) av (.agg cc.toArray)) → (t.isSt = false → ∃ u, cc = [u] ∧ AVR P hp ψ w (Mu M hp ψ) av u) →
      Does P o a w (OpPost P B M hp ψ w fr (pur av)) := by
    intro cs pre cc post e1 e2 e3 e4 k1 k2
    obtain ⟨r1, r2⟩ := run_part_of (w := w) hty e2 e4
    cases hs : t.isSt with
    | true =>
      refine does_run ?_ (c.pure (k1 hs))
      unfold execOp; simp only [ho, e1]
      simp [Instr.field, run_underlying hu, hfx, hoff, asAgg, ← e3, r1 hs]
    | false =>
      obtain ⟨u, hcc, hr⟩ := k2 hs
      refine does_run ?_ (c.pure hr)
      unfold execOp; simp only [ho, e1]
      simp [Instr.field, run_underlying hu, hfx, hoff, asAgg, ← e3, r2 hs u hcc]
  unfold fieldx at h
  split at h
  · rename_i t' d
    cases hs' : t'.isSt with
    | true =>
      rw [hs', if_pos rfl] at h
      obtain ⟨e, he, rfl⟩ := Option.map_eq_some_iff.1 h
      obtain ⟨c1, cc, c2, k1, k2, k3⟩ := proj_rd hX.2 he
      obtain ⟨cs, hcs⟩ := hX.1.2 hs'
      rw [hcs] at k1
      refine fin cs c1 cc c2 hcs k1 k2 k3.len (fun hs => ⟨shape_agg hs, by simpa [Value.cells] using k3⟩) fun hs => ?_
      obtain ⟨u, hu, hr⟩ := k3.cell (tyOk_one (w := w) hty hs).1 hs
      exact ⟨u, hu, hr⟩
    | false =>
      rw [hs'] at h
      cases h
  · rename_i cs
    obtain ⟨us, e1, q, q1⟩ := hX
    obtain ⟨cc, ⟨pre, post, k1, k2⟩, k3, k4, k5⟩ := partOf_ok hty h q q1
    exact fin us pre cc post e1 k1 k2 k3 k4 k5
  · cases h
theorem run_fieldAt_mid {T : TypeId} {f off : Nat} {t : Ty} (hT : fieldOk P T f off t = true) (b o' : Nat) : (Instr.fieldAt T (.pointer (some ⟨b, o', none⟩)) f).run P w = .ok (.pointer (some ⟨b, o' + off, none⟩)) w := by
  obtain ⟨fs, fx, hu, hfx, hoff, hty, hsz⟩ := fieldOk_spec hT
  obtain ⟨i, hi, his⟩ := Option.map_eq_some_iff.1 (tyOk_size hty)
  have : i.size ≠ 0 := by rw [his]; exact hsz
  simp [Instr.fieldAt, run_underlying hu, hfx, Instr.sureAddr, fieldPlace, sizeOf, typeInfo, hi, this, Addr.add_mid, hoff]
theorem ptr_val {hp : Hp} {M' : Nat → Prop} {t : Ty} {d : t.den} {b off : Nat} {cc : List Value} (h1 : b < w.heap.size) (h2 : ¬ M' b) (h3 : CellsAt w b off cc) (h4 : Rd P t w M' d cc) : AVR P hp ψ w M' (.val (.ptr t) d) (.pointer (some ⟨b, off, none⟩)) :=
  ⟨shape_ptr, b, off, cc, rfl, h1, h2, h3, h4⟩
theorem faddr_ok {T : TypeId} {f off : Nat} {t : Ty} {X : Operand} {x av : AV} (ho : o.op = .fieldAddr T X f) (hT : fieldOk P T f off t = true) (hlh : ∀ l ob, lh l = some ob → hp l = some ob)
    (hX : AVR P hp ψ w (Mu M hp ψ) x (a.eval X)) (h : faddrx lh off t x = some av) (c : Ctx P B M hp ψ w fr) : Does P o a w (OpPost P B M hp ψ w fr (pur av)) := by
  have fin : ∀ b o', a.eval X = .pointer (some ⟨b, o', none⟩) → AVR P hp ψ w (Mu M hp ψ) av (.pointer (some ⟨b, o' + off, none⟩)) → Does P o a w (OpPost P B M hp ψ w fr (pur av)) := by
    intro b o' e q
    refine does_run ?_ (c.pure q)
    unfold execOp; simp only [ho, e]
    rw [Sem.run_bind, run_fieldAt_mid hT]; rfl
  unfold faddrx at h
  split at h
  · rename_i l o'
    obtain ⟨ob, hl, rfl⟩ := Option.map_eq_some_iff.1 h
    obtain ⟨b, e1, e2⟩ := hX _ (hlh _ _ hl)
    exact fin b o' e2 fun _ _ => ⟨b, e1, rfl⟩
  · rename_i l i o'
    split at h
    · rename_i e t' xs hl
      injection h with h; subst h
      obtain ⟨g, n, cp, e1, e2⟩ := hX _ _ _ (hlh _ _ hl)
      refine fin g _ e2 fun e0 t0 xs0 h0 => ?_
      obtain ⟨g', n', cp', e3, e4⟩ := hX _ _ _ h0
      rw [e2] at e4
      refine ⟨g', n', cp', e3, ?_⟩
      simp only [Value.pointer.injEq, Option.some.injEq, Addr.mk.injEq, and_true] at e4 ⊢
      omega
    · cases h
  · rename_i t' d
    obtain ⟨e, he, rfl⟩ := Option.map_eq_some_iff.1 h
    obtain ⟨b, o', cc, e1, h1, h2, h3, h4⟩ := avr_ptr hX
    obtain ⟨c1, c', c2, rfl, k2, k3⟩ := proj_rd h4 he
    refine fin b o' e1 ?_
    rw [← k2]
    exact ptr_val h1 h2 h3.left.right k3
  · cases h
theorem iaddr_ok {T : TypeId} {t : Ty} {X Y : Operand} {x av : AV} {k : IntKind} {i : Int} {p : Prop} (ho : o.op = .indexAddr T X Y) (hT : elemIs P T t = true) (hlh : ∀ l ob, lh l = some ob → hp l = some ob)
    (hX : AVR P hp ψ w (Mu M hp ψ) x (a.eval X)) (hY : AVR P hp ψ w (Mu M hp ψ) (.val (.int k) i) (a.eval Y)) (h : iaddrx lh t i x = some (p, av)) (hp' : p) (c : Ctx P B M hp ψ w fr) : Does P o a w (OpPost P B M hp ψ w fr (pur av)) := by
  obtain ⟨e, hu, _, hsz⟩ := elemIs_spec (w := w) hT
  obtain ⟨eY, _⟩ := avr_int hY
  have fin : ∀ b o' n cp, a.eval X = .slice (some ⟨b, o', none⟩) n cp → 0 ≤ i → i < n → AVR P hp ψ w (Mu M hp ψ) av (.pointer (some ⟨b, o' + i.toNat * t.size, none⟩)) → Does P o a w (OpPost P B M hp ψ w fr (pur av)) := by
    intro b o' n cp e' h0 h1 q
    refine does_run ?_ (c.pure q)
    unfold execOp; simp only [ho, e', eY]
    simp [Instr.indexAt, asIntOf, run_underlying hu, h0, h1, hsz, Addr.add_mid]
  unfold iaddrx at h
  split at h
  · rename_i l
    split at h
    · rename_i e' t' xs hl
      split at h
      · rename_i et; subst et
        simp only [Option.some.injEq, Prod.mk.injEq] at h
        obtain ⟨rfl, rfl⟩ := h
        have hl' := hlh _ _ hl
        have eX := hX _ hl'
        obtain ⟨cells, hown, hrow⟩ := c.hok.ob l _ hl'
        rcases id hown.2 with ⟨_, q⟩ | ⟨g, cap, cur, q, _⟩
        · omega
        · refine fin g 0 _ cap (by rw [eX, q]) hp'.1 hp'.2 fun e0 t0 xs0 h0 => ⟨g, _, _, q, ?_⟩
          rw [hl'] at h0
          simp only [Option.some.injEq, OB.row.injEq] at h0
          obtain ⟨_, rfl, _⟩ := h0
          simp
      · cases h
    · cases h
  · rename_i t' xs
    split at h
    · rename_i et; subst et
      simp only [Option.some.injEq, Prod.mk.injEq] at h
      obtain ⟨rfl, rfl⟩ := h
      obtain ⟨A, n, cp, e1, e2, e3, e4, e5⟩ := (RdV.one (t := .sl t') hX rfl rfl).1
      simp only [List.cons.injEq, and_true] at e1
      rcases e5 with e5 | ⟨b, off, cc, rfl, h1, h2, h3, h4⟩
      · omega
      · have hi : i.toNat < xs.length := by omega
        obtain ⟨c1, cc', c2, rfl, r1, r2, r3⟩ := h4.at hi
        have hlen : c1.length = i.toNat * t'.size := by rw [RowsBy.len (fun _ _ q => q.len) r1, List.length_take, Nat.min_eq_left (Nat.le_of_lt hi)]
        refine fin b off n cp e1 hp'.1 (by omega) ?_
        rw [← hlen, List.getD_eq_getElem?_getD, List.getElem?_eq_getElem hi, Option.getD_some]
        exact ptr_val h1 h2 h3.left.right r2
    · cases h
  · rename_i l n
    split at h
    · rename_i T0 cs0 hl
      split at h
      · rename_i et
        simp only [Option.some.injEq, Prod.mk.injEq] at h
        obtain ⟨rfl, rfl⟩ := h
        have hl' := hlh _ _ hl
        obtain ⟨b, cp, q, eX, _⟩ := hX _ hl'
        refine fin b 0 n cp eX hp'.1 hp'.2 fun ob0 h0 => ⟨b, q, ?_⟩
        rw [et, Nat.zero_add, Nat.mul_one]
      · cases h
    · cases h
  · cases h
theorem avInt_some {x : AV} {n : Int} (h : avInt x = some n) : ∃ k, x = .val (.int k) n := by
  unfold avInt at h
  split at h
  · injection h with h; subst h; exact ⟨_, rfl⟩
  · cases h
theorem bounds_run {M' : Nat → Prop} {T e : TypeId} {lo hi : Bool} {L H : Option Operand} {bs : List AV} {A : Option Addr} {n cp s : Nat} {len l m : Int} (hu' : P.underlying T = some (.slice (P.elem T))) (hel : P.elem T = e) (hsz : (sizeOf e).run P w = .ok s w)
    (hL : L.isSome = lo) (hH : H.isSome = hi) (hB : AVRs P hp ψ w M' bs (L.toList.map a.eval ++ H.toList.map a.eval)) (hb : bounds lo hi bs len = some (l, m)) (h0 : 0 ≤ l) (h1 : l ≤ m) (h2 : m ≤ len) (h3 : len ≤ cp) (h4 : (n : Int) = len) :
    (Instr.slice T (.slice A n cp) (L.map a.eval) (H.map a.eval) none).run P w = .ok (sliced A l.toNat m.toNat cp s) w := by
  cases L with
  | none =>
    cases H with
    | none =>
      subst hL hH
      obtain rfl : bs = [] := by have := hB.len; simpa using this.symm
      simp only [bounds, Option.isSome_none, Bool.not_false, Bool.and_self, if_true, Option.some.injEq, Prod.mk.injEq] at hb
      obtain ⟨rfl, rfl⟩ := hb
      simp only [Option.map_none]
      rw [run_slice_all w T A n cp hu', hel, hsz, ← h4]
      simp
    | some H =>
      subst hL hH
      simp only [Option.toList_none, List.map_nil, List.nil_append, Option.toList_some, List.map_cons] at hB
      obtain ⟨x, rfl⟩ : ∃ x, bs = [x] := List.length_eq_one_iff.1 (by have := hB.len; simpa using this.symm)
      obtain ⟨v, hv, q⟩ := avr1 hB
      simp only [List.cons.injEq, and_true] at hv; subst hv
      simp [bounds] at hb
      obtain ⟨hx, rfl⟩ := hb
      obtain ⟨k, rfl⟩ := avInt_some hx
      simp only [Option.map_none, Option.map_some, (avr_int q).1]
      rw [run_slice_h w T A n cp hu' k m h1 (by omega), hel, hsz]
      simp
  | some L =>
    cases H with
    | none =>
      subst hL hH
      simp only [Option.toList_none, List.map_nil, List.append_nil, Option.toList_some, List.map_cons] at hB
      obtain ⟨x, rfl⟩ : ∃ x, bs = [x] := List.length_eq_one_iff.1 (by have := hB.len; simpa using this.symm)
      obtain ⟨v, hv, q⟩ := avr1 hB
      simp only [List.cons.injEq, and_true] at hv; subst hv
      simp [bounds] at hb
      obtain ⟨y, hx, rfl, rfl⟩ := hb
      obtain ⟨k, rfl⟩ := avInt_some hx
      simp only [Option.map_none, Option.map_some, (avr_int q).1]
      rw [run_slice_l w T A n cp hu' k y h0 (by omega), hel, hsz, ← h4]
      simp
    | some H =>
      subst hL hH
      simp only [Option.toList_some, List.map_cons, List.map_nil, List.singleton_append] at hB
      obtain ⟨x, z, rfl⟩ : ∃ x z, bs = [x, z] := by
        have := hB.len
        match bs, this with
        | [x, z], _ => exact ⟨x, z, rfl⟩
      obtain ⟨v, u, hv, q, q'⟩ := avr2 hB
      simp only [List.cons.injEq, and_true] at hv; obtain ⟨rfl, rfl⟩ := hv
      cases hx : avInt x with
      | none => simp [bounds, hx] at hb
      | some y =>
      cases hy : avInt z with
      | none => simp [bounds, hx, hy] at hb
      | some y' =>
      simp [bounds, hx, hy] at hb
      obtain ⟨rfl, rfl⟩ := hb
      obtain ⟨k, rfl⟩ := avInt_some hx
      obtain ⟨k', rfl⟩ := avInt_some hy
      simp only [Option.map_some, (avr_int q).1, (avr_int q').1]
      rw [run_slice_lh w T A n cp hu' k k' y y' h0 h1 (by omega), hel, hsz]
      simp
theorem slice_ok {T : TypeId} {t : Ty} {lo hi : Bool} {X : Operand} {L H : Option Operand} {x : AV} {bs : List AV} {eff : Eff} {p : Prop} (ho : o.op = .slice T X L H none) (hT : elemIs P T t = true) (hlh : ∀ l ob, lh l = some ob → hp l = some ob)
    (hL : L.isSome = lo) (hH : H.isSome = hi) (hX : AVR P hp ψ w (Mu M hp ψ) x (a.eval X)) (hB : AVRs P hp ψ w (Mu M hp ψ) bs (L.toList.map a.eval ++ H.toList.map a.eval)) (h : slicex lh t lo hi bs x = some (p, eff)) (hp' : p) (c : Ctx P B M hp ψ w fr) : Does P o a w (OpPost P B M hp ψ w fr eff) := by
  obtain ⟨e, hu, hinfo, hsz⟩ := elemIs_spec (w := w) hT
  have hel : P.elem T = e := by unfold Program.elem; rw [hu]
  have hu' : P.underlying T = some (.slice (P.elem T)) := by rw [hel]; exact hu
  unfold slicex at h
  split at h
  · rename_i xs ls hrd
    split at h
    · rename_i l m hb
      simp only [Option.some.injEq, Prod.mk.injEq] at h
      obtain ⟨rfl, rfl⟩ := h
      have hX' := rd_ok c.hok hlh hrd hX (ls' := ls) (fun _ h => h)
      obtain ⟨A, n, cp, e1, e2, e3, e4⟩ := slice_fin hX' l.toNat m.toNat (by omega) (by omega)
      have fin : (Instr.sliceAt T (a.eval X) (L.map a.eval) (H.map a.eval) none).run P w = .ok (sliced A l.toNat m.toNat cp t.size) w → Does P o a w (OpPost P B M hp ψ w fr ⟨.val (.sl t) ((xs.take m.toNat).drop l.toNat), ls, none⟩) := by
        intro hr
        refine does_run ?_ (c.kills (Below.refl _ _) e4)
        unfold execOp; simp only [ho]
        simp [hr]
      apply fin
      rw [run_sliceAt_slice w T _ _ _ _ hu', e1]
      exact bounds_run hu' hel hsz hL hH hB hb (by omega) (by omega) (by omega) (by omega) (by rw [e2])
    · cases h
  · cases h
end
end T
end Go.Proofs.Ytbbpiihbhdagnaa
