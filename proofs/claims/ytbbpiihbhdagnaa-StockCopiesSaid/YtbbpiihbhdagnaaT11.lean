/- Typed abstract walk, part 11: each operation does what the walk says (6): appends and calls. -/
import Derived.Test.YtbbpiihbhdagnaaT10
namespace Go.Proofs.Ytbbpiihbhdagnaa
set_option linter.unusedVariables false
set_option linter.unusedSimpArgs false
open Go.RowKit
namespace T
/-- The slice value v' lies where v lay, or in a block that is new since w. -/
def Near (w : World) (v v' : Value) : Prop := v'.ownBlock = v.ownBlock ∨ ∃ g, v'.ownBlock = some g ∧ w.heap.size ≤ g
section
variable {P : Program} {w : World}
theorem append_near (base : Nat) (t ty e : TypeId) (i : TypeInfo) (z : Value) (size bytes : Nat) (ht : P.underlying t = some (.slice e)) (hi : P.info? e = some i) (hz : i.zero = some z)
    (hsize : i.size = size) (hby : i.bytes = bytes) (hzs : z.cells.size = size) (hsz : 0 < size)
    (v : Value) (n : Nat) (xs : List Value) (hown : w.ownsRow base e size v n xs)
    (a : Addr) (m c : Nat) (news : List Value) (hl : news.length = m * size) (hnews : ∀ j u, news[j]? = some u → w.cell? (a.add j) = some u) (h1 : ∀ u ∈ news, u.oneCell' = true)
    (h63 : n + m ≤ maxLen) (hbytes : (n + m) * bytes ≤ 140737488355328) (hbase : base ≤ w.heap.size) :
    ∃ v' w', (Builtin.append_ #[t, t] ty #[v, .slice (some a) m c]).run P w = .ok v' w' ∧ w'.ownsRow base e size v' (n + m) (xs ++ news) ∧ w.grownBy w' v.ownBlock ∧ Near w v v' := by
  obtain ⟨v', w', hr, k2, k3, k4⟩ := run_append_own (P := P) w base t ty e i z size bytes ht hi hz hsize hby hzs hsz v n xs hown a m c news hl hnews h1 h63 hbytes hbase
  refine ⟨v', w', hr, k2, k3, ?_⟩
  have hs : n + m ≤ 9223372036854775807 := by simp only [maxLen] at h63; omega
  rcases hown.2 with ⟨rfl, rfl⟩ | ⟨g, cap, cur, rfl, _, hg, hnc, _, hcs, _⟩
  · by_cases hm : m = 0
    · exact .inl (by rw [(k4.2 ⟨rfl, hm⟩)])
    · have q := run_append_nil (P := P) w t ty e i z ht hi hz a m c news (by rw [hl, hsize]) hnews (by omega) (by omega) (by rw [hby]; have hb := hbytes; simp only [Nat.zero_add] at hb; omega)
      rw [q] at hr
      injection hr with h5
      exact .inr ⟨_, by rw [← h5]; rfl, Nat.le_refl _⟩
  · by_cases hroom : n + m ≤ cap
    · have q := run_append_room (P := P) w t ty e i ht hi g n cap cur hg a m c news (by rw [hl, hsize]) hnews h1 hroom (by rw [hl, hsize, hcs, ← Nat.add_mul]; exact Nat.mul_le_mul_right _ hroom)
      rw [q] at hr
      injection hr with h5
      exact .inl (by rw [← h5]; rfl)
    · have holds : ∀ j u, xs[j]? = some u → w.cell? ((⟨g, 0, none⟩ : Addr).add j) = some u := hown.cells (g := g) rfl
      have q := run_append_grow (P := P) w t ty e i z ht hi hz ⟨g, 0, none⟩ n cap xs (by rw [hsize]; exact hown.1) holds a m c news (by rw [hl, hsize]) hnews (by omega) (by omega) (by rw [hby]; exact growslice_fits (by omega) hbytes)
      rw [q] at hr
      injection hr with h5
      exact .inr ⟨_, by rw [← h5]; rfl, Nat.le_refl _⟩


theorem append_nilsrc (base : Nat) (t ty e : TypeId) (i : TypeInfo) (size : Nat) (ht : P.underlying t = some (.slice e)) (hi : P.info? e = some i) (v : Value) (n c : Nat) (xs : List Value) (hown : w.ownsRow base e size v n xs) :
    (Builtin.append_ #[t, t] ty #[v, .slice none 0 c]).run P w = .ok v w := by
  rcases hown.2 with ⟨rfl, rfl⟩ | ⟨g, cap, cur, rfl, _, hg, hnc, _⟩
  · simp [Builtin.append_, run_underlying ht, sizeOf, typeInfo, hi, Builtin.lenOf, Builtin.firstCells]
  · simp [Builtin.append_, run_underlying ht, sizeOf, typeInfo, hi, Builtin.lenOf, Builtin.firstCells, hnc, storeCells]
end
section
variable {P : Program} {B : Nat} {M : Nat → Prop} {hp lh : Hp} {ψ : Nat → Value} {w w' : World} {fr : Nat} {C : List Ent} {o : Oper} {a : Act}
theorem blk_own {v : Value} {A : Option Addr} {n c : Nat} (h : v = .slice A n c) : blk v = v.ownBlock := by subst h; cases A <;> rfl
theorem ownsRow_slice {e : TypeId} {s : Nat} {v : Value} {n : Nat} {xs : List Value} (h : w.ownsRow B e s v n xs) : ∃ A c, v = .slice A n c := by
  rcases h.2 with ⟨rfl, rfl⟩ | ⟨g, cap, cur, rfl, _⟩
  · exact ⟨_, _, rfl⟩
  · exact ⟨_, _, rfl⟩
theorem RowsBy.takes {α : Type} {R : α → List Value → Prop} {n : Nat} (hR : ∀ x c, R x c → c.length = n) {xs : List α} {cs : List Value} (h : RowsBy R xs cs) {m : Nat} (hm : m ≤ xs.length) : RowsBy R (xs.take m) (cs.take (m * n)) ∧ RowsBy R (xs.drop m) (cs.drop (m * n)) := by
  rw [← List.take_append_drop m xs] at h
  obtain ⟨c1, c2, rfl, h1, h2⟩ := h.split
  have hl : c1.length = m * n := by rw [RowsBy.len hR h1, List.length_take, Nat.min_eq_left hm]
  rw [← hl, List.take_left', List.drop_left' rfl]
  · exact ⟨h1, h2⟩
  · rfl
theorem RowsBy.seg {α : Type} {R : α → List Value → Prop} {n : Nat} (hR : ∀ x c, R x c → c.length = n) {xs : List α} {cs : List Value} (h : RowsBy R xs cs) (lo hi : Nat) (hlo : lo ≤ hi) (hm : hi ≤ xs.length) : RowsBy R ((xs.take hi).drop lo) ((cs.take (hi * n)).drop (lo * n)) :=
  (RowsBy.takes hR (RowsBy.takes hR h hm).1 (by rw [List.length_take]; omega)).2
/-- The slice that is appended, in memory. -/
theorem src_ok (h0 : HOK P B M hp ψ w) (hlh : ∀ l ob, lh l = some ob → hp l = some ob) {t : Ty} {x : AV} {ys : List t.den} (h : srcx lh t x = some ys) {v : Value} (hX : AVR P hp ψ w (Mu M hp ψ) x v) :
    (∃ c, v = .slice none 0 c ∧ ys = []) ∨ ∃ ad c cells, v = .slice (some ad) ys.length c ∧ (∀ j u, cells[j]? = some u → w.cell? (ad.add j) = some u) ∧ RowsBy (fun x c => Rd P t w (Mu M hp ψ) x c) ys cells := by
  have cast_sl : ∀ {t' : Ty} {xs : List t'.den} {ys : List t.den}, cast? (.sl t) (.sl t') xs = some ys → ∀ {cells : List Value}, RowsBy (fun x c => Rd P t' w (Mu M hp ψ) x c) xs cells → ys.length = xs.length ∧ RowsBy (fun x c => Rd P t w (Mu M hp ψ) x c) ys cells := by
    intro t' xs ys hc cells hr
    obtain ⟨q, q'⟩ := cast?_some hc
    injection q with q; subst q
    simp only at q'; subst q'
    exact ⟨rfl, hr⟩
  have nil_sl : ∀ {t' : Ty} {xs : List t'.den} {ys : List t.den}, cast? (.sl t) (.sl t') xs = some ys → xs.length = 0 → ys = [] := by
    intro t' xs ys hc hr
    obtain ⟨q, q'⟩ := cast?_some hc
    injection q with q; subst q
    simp only at q'; subst q'
    exact List.eq_nil_of_length_eq_zero hr
  unfold srcx at h
  split at h
  · rename_i l
    split at h
    · rename_i e t' xs hl
      have hl' := hlh _ _ hl
      obtain rfl := hX _ hl'
      obtain ⟨cells, hown, hrow⟩ := h0.ob l _ hl'
      obtain ⟨k1, k2⟩ := cast_sl h hrow
      rcases id hown.2 with ⟨q, q'⟩ | ⟨g, cap, cur, q, _⟩
      · exact .inl ⟨0, q, nil_sl h q'⟩
      · exact .inr ⟨⟨g, 0, none⟩, cap, cells, by rw [k1, q], fun j u hj => hown.cells (g := g) (by rw [q]; rfl) j u hj, k2⟩
    · cases h
  · rename_i t' xs
    obtain ⟨A, n, c, e1, e2, e3, e4, e5⟩ := (RdV.one (t := .sl t') hX rfl rfl).1
    simp only [List.cons.injEq, and_true] at e1
    rcases e5 with e5 | ⟨b, off, cc, rfl, h1, h2, h3, h4⟩
    · have hy := nil_sl h (by omega)
      subst hy
      rcases A with _ | ad
      · exact .inl ⟨c, by rw [e1, e5], rfl⟩
      · exact .inr ⟨ad, c, [], by rw [e1, e5]; rfl, fun j u hj => by simp at hj, rfl⟩
    · obtain ⟨k1, k2⟩ := cast_sl h h4
      exact .inr ⟨⟨b, off, none⟩, c, cc, by rw [e1, k1, e2], fun j u hj => by rw [Addr.add_mid]; exact h3 j u hj, k2⟩
  · injection h with h; subst h
    obtain rfl : v = _ := hX
    exact .inl ⟨0, rfl, rfl⟩
  · rename_i l lo hi
    split at h
    · rename_i e t' xs hl
      obtain ⟨zs, hz, rfl⟩ := Option.map_eq_some_iff.1 h
      obtain ⟨q, q'⟩ := cast?_some hz
      injection q with q; subst q
      simp only at q'; subst q'
      have hl' := hlh _ _ hl
      obtain ⟨hlo, A, n, c, eψ, hn, ev⟩ := hX _ _ _ hl'
      obtain ⟨cells, hown, hrow⟩ := h0.ob l _ hl'
      have hxn : xs.length = n := by
        rcases hown.2 with ⟨q, q2⟩ | ⟨g, cap, cur, q, _⟩
        · rw [eψ] at q; injection q with _ q _; rw [q2, q]
        · rw [eψ] at q; injection q with _ q _; exact q.symm
      have hlen : ((xs.take hi).drop lo).length = hi - lo := by simp; omega
      rcases hown.2 with ⟨q, q2⟩ | ⟨g, cap, cur, q, hB, hg, hnc, hcm, hcs, ht⟩
      · rw [eψ] at q
        injection q with qa qn qc
        refine .inl ⟨c - lo, ?_, List.eq_nil_of_length_eq_zero (by rw [hlen]; omega)⟩
        rw [ev, qa]; unfold sliced
        simp only [Option.map_none, ite_self]
        rw [show hi - lo = 0 by omega]
      · rw [eψ] at q
        injection q with qa qn qc
        have hcl : cells.length = xs.length * t'.size := hown.1
        refine .inr ⟨if c = lo then ⟨g, 0, none⟩ else (⟨g, 0, none⟩ : Addr).add (lo * t'.size), c - lo, (cells.take (hi * t'.size)).drop (lo * t'.size), ?_, fun j u hj => ?_, ?_⟩
        · rw [hlen, ev, qa]; unfold sliced
          split <;> rfl
        · rw [List.getElem?_drop, List.getElem?_take] at hj
          split at hj
          · rename_i hlt
            have hc2 : ¬ c = lo := fun e => by
              have : lo * t'.size = hi * t'.size := by rw [show lo = hi by omega]
              omega
            rw [if_neg hc2, show ((⟨g, 0, none⟩ : Addr).add (lo * t'.size)).add j = (⟨g, 0, none⟩ : Addr).add (lo * t'.size + j) by simp [Addr.add_mid, Nat.add_assoc]]
            exact hown.cells (g := g) (by rw [eψ, qa]; rfl) _ _ hj
          · cases hj
        · have := RowsBy.seg (n := t'.size) (fun _ _ q => q.len) hrow lo hi hlo (by omega)
          exact this
    · cases h
  · cases h
theorem append_ok {T e : TypeId} {t : Ty} {bytes : Nat} {X Y : Operand} {x y : AV} {p : Prop} {eff : Eff} (ho : o.op = .call ⟨.builtin .append, #[X, Y], #[T, T]⟩) (hT : elemOk P T e t = true) (hz : zeroIs P e t = true) (hb : (P.info? e).map (·.bytes) = some bytes) (hb0 : bytes ≠ 0) (hs0 : t.size ≠ 0)
    (hlh : ∀ l ob, lh l = some ob → hp l = some ob) (hX : AVR P hp ψ w (Mu M hp ψ) x (a.eval X)) (hY : AVR P hp ψ w (Mu M hp ψ) y (a.eval Y)) (h : appendx lh fr e t bytes x y = some (p, eff)) (hp' : p) (c : Ctx P B M hp ψ w fr) :
    Does P o a w (OpPost P B M hp ψ w fr eff) := by
  obtain ⟨hu, i, hi, his⟩ := elemOk_spec hT
  obtain ⟨i', z, hi', hz', hrd⟩ := zeroIs_spec hz
  rw [hi] at hi'; injection hi' with hi'; subst hi'
  rw [hi] at hb
  simp only [Option.map_some, Option.some.injEq] at hb
  have hzs : z.cells.size = t.size := by have := (hrd w (fun _ => False)).len; simpa using this
  have hex : ∀ v' w', (Builtin.append_ #[T, T] o.type #[a.eval X, a.eval Y]).run P w = .ok v' w' → (execOp a.eval o).run P w = .ok (.value v') w' := by
    intro v' w' hr
    unfold execOp
    simp only [ho]
    simp [resolve, invoke, builtin, hr]
  -- what is common: a row that is owned, or nil
  have main : ∀ (ks : List Nat) (xs ys : List t.den) (cells : List Value), srcx lh t y = some ys → w.ownsRow B e t.size (a.eval X) xs.length cells → RowsBy (fun x c => Rd P t w (Mu M hp ψ) x c) xs cells → (xs.length + ys.length) * bytes ≤ 140737488355328 →
      (∀ b, blk (a.eval X) = some b → ∃ l0 ∈ ks, ∃ ob0, hp l0 = some ob0 ∧ blk (ψ l0) = some b) → Does P o a w (OpPost P B M hp ψ w fr ⟨.own fr, ks, some (fr, .row e t (xs ++ ys))⟩) := by
    intro ks xs ys cells hsrc hown hrow hbd hks
    rcases src_ok c.hok hlh hsrc hY with ⟨cp, ev, rfl⟩ | ⟨ad, cp, news, ev, hn, hnr⟩
    · have hr := append_nilsrc (P := P) B T o.type e i t.size hu hi (a.eval X) xs.length cp cells hown
      refine does_run (hex _ _ (by rw [ev]; exact hr)) ?_
      rw [List.append_nil]
      refine c.news (u := a.eval X) rfl rfl rfl (Nat.le_refl _) (fun _ _ _ => rfl) (fun b hb => .inr (hks b hb)) (fun hl => ⟨cells, by rw [upd'_same]; exact hown, hrow.mono fun _ _ _ q => q.later hl⟩) (fun _ ob _ => by simp)
    · have hnl : news.length = ys.length * t.size := RowsBy.len (fun _ _ q => q.len) hnr
      have hml : xs.length + ys.length ≤ maxLen := by
        have : (xs.length + ys.length) * 1 ≤ (xs.length + ys.length) * bytes := Nat.mul_le_mul_left _ (by omega)
        simp [maxLen]; omega
      have hone : ∀ u ∈ news, u.oneCell' = true := by
        have key : ∀ {zs : List t.den} {cs : List Value}, RowsBy (fun x c => Rd P t w (Mu M hp ψ) x c) zs cs → ∀ u ∈ cs, u.oneCell' = true := by
          intro zs
          induction zs with
          | nil => intro cs h u hu; obtain rfl : cs = [] := h; simp at hu
          | cons z r ih =>
            rintro cs ⟨c1, c2, rfl, q1, q2⟩ u hu
            rcases List.mem_append.1 hu with hu | hu
            · exact Rd.one q1 u hu
            · exact ih q2 u hu
        exact key hnr
      obtain ⟨v', w', hr, k1, k2, k3⟩ := append_near (P := P) (w := w) B T o.type e i z t.size bytes hu hi hz' his hb hzs (by omega) (a.eval X) xs.length cells hown ad ys.length cp news hnl hn hone hml hbd c.hok.bz
      refine does_run (hex _ _ (by rw [ev]; exact hr)) ?_
      obtain ⟨A, cX, eX⟩ := ownsRow_slice hown
      obtain ⟨A', cX', eX'⟩ := ownsRow_slice k1
      refine c.news (u := v') k2.os k2.tape k2.output k2.size (fun b hb hne => k2.block b hb fun eb => ?_) (fun b hb => ?_) (fun hl => ⟨cells ++ news, by rw [upd'_same, List.length_append]; exact k1, ?_⟩) (fun _ ob _ => by simp)
      · obtain ⟨l0, q1, ob0, q2, q3⟩ := hks b (by rw [blk_own eX]; exact eb.symm)
        exact hne l0 q1 ob0 q2 q3
      · rw [blk_own eX'] at hb
        rcases k3 with k3 | ⟨g, k3, k4⟩
        · right
          exact hks b (by rw [blk_own eX, ← k3]; exact hb)
        · left
          rw [k3] at hb; injection hb with hb; subst hb
          exact ⟨k4, (ownsRow_blk k1 (by rw [blk_own eX', k3])).2⟩
      · exact (hrow.mono fun _ _ _ q => q.later hl).append (hnr.mono fun _ _ _ q => q.later hl)
  unfold appendx at h
  split at h
  · cases h
  · rename_i ys hsrc
    split at h
    · rename_i l
      split at h
      · rename_i e' t' xs0 hl
        split at h
        · rename_i ee; subst ee
          obtain ⟨xs, hxs, e1⟩ := Option.map_eq_some_iff.1 h
          simp only [Prod.mk.injEq] at e1
          obtain ⟨rfl, rfl⟩ := e1
          obtain ⟨q, q'⟩ := cast?_some hxs
          injection q with q; subst q
          simp only at q'; subst q'
          have hl' := hlh _ _ hl
          have eX := hX _ hl'
          obtain ⟨cells, hown, hrow⟩ := c.hok.ob l _ hl'
          exact main [l] xs0 ys cells hsrc (by rw [eX]; exact hown) hrow hp' (fun b hb => ⟨l, by simp, _, hl', by rw [← eX]; exact hb⟩)
        · cases h
      · cases h
    · simp only [Option.some.injEq, Prod.mk.injEq] at h
      obtain ⟨rfl, rfl⟩ := h
      have eX : a.eval X = .slice none 0 0 := hX
      have := main [] [] ys [] hsrc (by rw [eX]; exact ⟨by simp, .inl ⟨rfl, rfl⟩⟩) rfl (by simpa using hp') (fun b hb => by rw [eX] at hb; simp [blk] at hb)
      simpa using this
    · cases h

theorem rows_cast {α : Type} {R : α → List Value → Prop} {xs ys : List α} {cs : List Value} (e : xs = ys) (h : RowsBy R xs cs) : RowsBy R ys cs := e ▸ h
theorem take_at {α : Type} {l : List α} {n j : Nat} {v : α} (h : (l.take n)[j]? = some v) : l[j]? = some v := by
  rw [List.getElem?_take] at h
  split at h
  · exact h
  · cases h
theorem rows_one {M' : Nat → Prop} {t : Ty} : ∀ {zs : List t.den} {cs : List Value}, RowsBy (fun x c => Rd P t w M' x c) zs cs → ∀ u ∈ cs, u.oneCell' = true
  | [], cs, h, u, hu => by obtain rfl : cs = [] := h; simp at hu
  | z :: r, _, ⟨c1, c2, rfl, q1, q2⟩, u, hu => by
    rcases List.mem_append.1 hu with hu | hu
    · exact Rd.one q1 u hu
    · exact rows_one q2 u hu
/-- A copy into a row: its cells from an offset on. -/
theorem run_copy_sized {T T' ty e : TypeId} {i : TypeInfo} {s : Nat} (hu : P.underlying T = some (.slice e)) (hi : P.info? e = some i) (his : i.size = s) {g o : Nat} {oc : Value → Value} {dLen dCap sLen sCap : Nat} {a : Addr} {cur : Array Value} {t : TypeId} {cs : List Value}
    (hg : w.heap[g]? = some (.cells cur t (0, 0))) (hn : cs.length = Nat.min sLen dLen * s) (hsrc : ∀ j v, cs[j]? = some v → w.cell? (a.add j) = some v) (hfit : o + cs.length ≤ cur.size) (h1 : ∀ v ∈ cs, v.oneCell' = true) :
    (Builtin.copy_ #[T, T'] ty #[.slice (some ⟨g, o, none⟩) dLen dCap, .slice (some a) sLen sCap]).run P w =
      .ok (goInt (Nat.min sLen dLen : Nat)) (w.setRow g (cur.toList.take o ++ cs ++ cur.toList.drop (o + cs.length)).toArray) := by
  have hl := run_loadCells_list (P := P) w a cs hsrc
  have hst := run_storeCells_at P g o t cs 0 cur w hg (by simpa using hfit) h1
  rw [hn] at hl
  simp [Builtin.copy_, run_underlying hu, Builtin.lenOf, Builtin.firstCells, sizeOf, typeInfo, hi, his, hl, hst]
theorem copy_none {T T' ty e : TypeId} {i : TypeInfo} (hu : P.underlying T = some (.slice e)) (hi : P.info? e = some i) {A A' : Option Addr} {dLen dCap sLen sCap : Nat} (hn : Nat.min sLen dLen = 0) :
    (Builtin.copy_ #[T, T'] ty #[.slice A dLen dCap, .slice A' sLen sCap]).run P w = .ok (goInt 0) w := by
  cases A' with
  | none => cases A <;> simp [Builtin.copy_, run_underlying hu, Builtin.lenOf, Builtin.firstCells, sizeOf, typeInfo, hi, hn, storeCells]
  | some a =>
    have hl := run_loadCells_list (P := P) w a [] (fun j v h => by simp at h)
    simp only [List.length_nil] at hl
    cases A <;> simp [Builtin.copy_, run_underlying hu, Builtin.lenOf, Builtin.firstCells, sizeOf, typeInfo, hi, hn, hl, storeCells]
theorem slicey_ok {T : TypeId} {t : Ty} {lo hi own : Bool} {X : Operand} {L H : Option Operand} {x : AV} {bs : List AV} {eff : Eff} {p : Prop} (ho : o.op = .slice T X L H none) (hT : elemIs P T t = true) (hlh : ∀ l ob, lh l = some ob → hp l = some ob)
    (hL : L.isSome = lo) (hH : H.isSome = hi) (hX : AVR P hp ψ w (Mu M hp ψ) x (a.eval X)) (hB : AVRs P hp ψ w (Mu M hp ψ) bs (L.toList.map a.eval ++ H.toList.map a.eval)) (h : slicey lh t lo hi own bs x = some (p, eff)) (hp' : p) (c : Ctx P B M hp ψ w fr) : Does P o a w (OpPost P B M hp ψ w fr eff) := by
  unfold slicey at h
  split at h
  · unfold oslx at h
    split at h
    · rename_i l
      split at h
      · rename_i e0 t' xs hl
        split at h
        · rename_i et; subst et
          split at h
          · rename_i m k hb
            simp only [Option.some.injEq, Prod.mk.injEq] at h
            obtain ⟨rfl, rfl⟩ := h
            obtain ⟨e, hu, hinfo, hsz⟩ := elemIs_spec (w := w) hT
            have hel : P.elem T = e := by unfold Program.elem; rw [hu]
            have hu' : P.underlying T = some (.slice (P.elem T)) := by rw [hel]; exact hu
            have hl' := hlh _ _ hl
            have eX := hX _ hl'
            obtain ⟨cells, hown, hrow⟩ := c.hok.ob l _ hl'
            have hsl : ∃ A cp, ψ l = .slice A xs.length cp ∧ xs.length ≤ cp := by
              rcases hown.2 with ⟨q, q2⟩ | ⟨g, cap, cur, q, _, _, hnc, _⟩
              · exact ⟨_, _, by rw [q, q2], by omega⟩
              · exact ⟨_, _, q, hnc⟩
            obtain ⟨A, cp, eψ, hnc⟩ := hsl
            refine does_run (v := sliced A m.toNat k.toNat cp t'.size) (w' := w) ?_ (c.pure (av := .sub l m.toNat k.toNat) fun e2 t2 xs2 h2 => ?_)
            · unfold execOp; simp only [ho]
              have := bounds_run (s := t'.size) (A := A) (n := xs.length) (cp := cp) hu' hel hsz hL hH hB hb (by omega) (by omega) (by omega) (by omega) rfl
              rw [← eψ, ← eX, ← run_sliceAt_slice w T _ _ _ _ hu'] at this
              simp [this]
            · rw [hl'] at h2
              simp only [Option.some.injEq, OB.row.injEq] at h2
              obtain ⟨_, rfl, _⟩ := h2
              exact ⟨by omega, A, _, cp, eψ, by omega, rfl⟩
          · cases h
        · cases h
      · cases h
    · cases h
  · exact slice_ok ho hT hlh hL hH hX hB h hp' c
theorem copy_ok {T e : TypeId} {t : Ty} {X Y : Operand} {x y : AV} {p : Prop} {eff : Eff} (ho : o.op = .call ⟨.builtin .copy, #[X, Y], #[T, T]⟩) (hT : elemOk P T e t = true) (hs0 : t.size ≠ 0)
    (hlh : ∀ l ob, lh l = some ob → hp l = some ob) (hX : AVR P hp ψ w (Mu M hp ψ) x (a.eval X)) (hY : AVR P hp ψ w (Mu M hp ψ) y (a.eval Y)) (h : copyx lh e t x y = some (p, eff)) (hp' : p) (c : Ctx P B M hp ψ w fr) :
    Does P o a w (OpPost P B M hp ψ w fr eff) := by
  obtain ⟨hu, i, hi, his⟩ := elemOk_spec hT
  have hex : ∀ v' w', (Builtin.copy_ #[T, T] o.type #[a.eval X, a.eval Y]).run P w = .ok v' w' → (execOp a.eval o).run P w = .ok (.value v') w' := by
    intro v' w' hr
    unfold execOp
    simp only [ho]
    simp [resolve, invoke, builtin, hr]
  have main : ∀ (l : Nat) (xs ys : List t.den) (lo hi : Nat) (A : Option Addr) (n cp : Nat), hp l = some (.row e t xs) → srcx lh t y = some ys → ψ l = .slice A n cp → lo ≤ hi → hi ≤ n → (∃ cp', a.eval X = .slice (if cp = lo then A else A.map (·.add (lo * t.size))) (hi - lo) cp') →
      Does P o a w (OpPost P B M hp ψ w fr ⟨.val (.int .i64) ((min ys.length (hi - lo) : Nat) : Int), [], some (l, .row e t (xs.take lo ++ (ys.take (hi - lo) ++ xs.drop (lo + min ys.length (hi - lo)))))⟩) := by
    intro l xs ys lo hh A n cp hl hsrc eψ hlo hhn ⟨cp', eX⟩
    obtain ⟨cells, hown, hrow⟩ := c.hok.ob l _ hl
    have hxn : xs.length = n := by
      rcases hown.2 with ⟨q, q2⟩ | ⟨g, cap, cur, q, _⟩
      · rw [eψ] at q; injection q with _ q _; rw [q2, q]
      · rw [eψ] at q; injection q with _ q _; exact q.symm
    have hcl : cells.length = xs.length * t.size := hown.1
    have hav : ∀ {hp' : Hp} {ψ' : Nat → Value} {w' : World} {M' : Nat → Prop}, hh ≤ maxLen → AVR P hp' ψ' w' M' (.val (.int .i64) ((min ys.length (hh - lo) : Nat) : Int)) (goInt (Nat.min ys.length (hh - lo) : Nat)) := fun hm =>
      int_avr (by
        have h9 : Nat.min ys.length (hh - lo) ≤ hh - lo := Nat.min_le_right _ _
        have h8 : min ys.length (hh - lo) = Nat.min ys.length (hh - lo) := rfl
        rw [h8]
        generalize Nat.min ys.length (hh - lo) = m at h9 ⊢
        simp only [maxLen] at hm
        show (-9223372036854775808 : Int) ≤ _ ∧ _ ≤ (9223372036854775807 : Int)
        omega)
    have hmx : hh ≤ maxLen := by
      rcases hown.2 with ⟨q, q2⟩ | ⟨g, cap, cur, q, _, _, hnc, hcm, _⟩
      · simp [maxLen]; omega
      · omega
    by_cases hz : Nat.min ys.length (hh - lo) = 0
    · have hk : ∃ A' sc, a.eval Y = .slice A' ys.length sc := by
        rcases src_ok c.hok hlh hsrc hY with ⟨cpy, ev, rfl⟩ | ⟨ad, cpy, news, ev, _⟩
        · exact ⟨none, cpy, ev⟩
        · exact ⟨_, _, ev⟩
      obtain ⟨A', sc, eY⟩ := hk
      have hr := copy_none (P := P) (w := w) (T' := T) (ty := o.type) hu hi (A := if cp = lo then A else A.map (·.add (lo * t.size))) (A' := A') (dCap := cp') (sCap := sc) hz
      refine does_run (hex _ _ (by rw [eX, eY]; exact hr)) ?_
      have hz' : min ys.length (hh - lo) = 0 := hz
      have e1 : ys.take (hh - lo) = [] := by
        rw [List.take_eq_nil_iff]
        rcases Nat.le_total ys.length (hh - lo) with q | q
        · right; exact List.eq_nil_of_length_eq_zero (by rw [Nat.min_eq_left q] at hz'; exact hz')
        · left; rw [Nat.min_eq_right q] at hz'; exact hz'
      refine c.write (l := l) hl (show t = t from rfl) (by simp) rfl rfl rfl (Nat.le_refl _) (fun _ _ _ => rfl) (fun hl' => ⟨cells, ?_, ?_⟩) (fun _ => ?_)
      · rw [hz', e1, List.nil_append, Nat.add_zero, List.take_append_drop]; exact hown
      · exact rows_cast (by rw [hz', e1, List.nil_append, Nat.add_zero, List.take_append_drop]) (hrow.mono fun _ _ _ q => q.later hl')
      · have e : goInt 0 = goInt (Nat.min ys.length (hh - lo) : Nat) := by rw [hz]; rfl
        rw [e]; exact hav hmx
    · rcases hown.2 with ⟨q, q2⟩ | ⟨g, cap, cur, q, hB, hg, hnc, hcm, hcs, ht⟩
      · exfalso
        have : Nat.min ys.length (hh - lo) ≤ hh - lo := Nat.min_le_right _ _
        omega
      · rw [eψ] at q
        injection q with qa qn qc
        rcases src_ok c.hok hlh hsrc hY with ⟨cpy, ev, rfl⟩ | ⟨ad, cpy, news, ev, hn, hnr⟩
        · exact absurd (Nat.min_eq_zero_iff.2 (.inl rfl)) hz
        have hk0 : 0 < hh - lo := by
          rcases Nat.eq_zero_or_pos (hh - lo) with c | c
          · exact absurd (Nat.min_eq_zero_iff.2 (.inr c)) hz
          · exact c
        obtain ⟨k, hk⟩ : ∃ k, k = Nat.min ys.length (hh - lo) := ⟨_, rfl⟩
        have hk' : min ys.length (hh - lo) = k := hk.symm
        have k1 : k ≤ ys.length := by rw [hk]; exact Nat.min_le_left _ _
        have k2 : k ≤ hh - lo := by rw [hk]; exact Nat.min_le_right _ _
        have hcp : ¬ cp = lo := by omega
        rw [if_neg hcp, qa] at eX
        simp only [Option.map_some] at eX
        have eadd : (⟨g, 0, none⟩ : Addr).add (lo * t.size) = ⟨g, lo * t.size, none⟩ := by rw [Addr.add_mid, Nat.zero_add]
        rw [eadd] at eX
        obtain ⟨r1, r2⟩ := RowsBy.takes (n := t.size) (fun _ _ q => q.len) hnr k1
        have hnl : news.length = ys.length * t.size := RowsBy.len (fun _ _ q => q.len) hnr
        have hsl : (news.take (k * t.size)).length = k * t.size := by
          rw [List.length_take, Nat.min_eq_left (by rw [hnl]; exact Nat.mul_le_mul_right _ k1)]
        have hfit : lo * t.size + k * t.size ≤ cap * t.size := by rw [← Nat.add_mul]; exact Nat.mul_le_mul_right _ (by omega)
        have hr := run_copy_sized (P := P) (w := w) (T' := T) (ty := o.type) (oc := id) hu hi his (o := lo * t.size) (dLen := hh - lo) (dCap := cp') (sLen := ys.length) (sCap := cpy) (a := ad) (cs := news.take (k * t.size)) hg (by rw [hsl, hk])
          (fun j v hj => hn j v (take_at hj)) (by rw [hsl, hcs]; exact hfit) (fun v hv => rows_one hnr v (List.mem_of_mem_take hv))
        refine does_run (hex _ _ (by rw [eX, ev]; exact hr)) ?_
        rw [hk']
        have htk : ys.take (hh - lo) = ys.take k := by
          rw [hk]
          rcases Nat.le_total ys.length (hh - lo) with q | q
          · rw [show Nat.min ys.length (hh - lo) = ys.length from Nat.min_eq_left q, List.take_of_length_le q, List.take_of_length_le (Nat.le_refl _)]
          · rw [show Nat.min ys.length (hh - lo) = hh - lo from Nat.min_eq_right q]
        rw [htk, hsl]
        have hxl : (xs.take lo ++ (ys.take k ++ xs.drop (lo + k))).length = xs.length := by simp; omega
        have hkn : lo + k ≤ xs.length := by omega
        have hcell : (cells.take (lo * t.size) ++ (news.take (k * t.size) ++ cells.drop ((lo + k) * t.size))).length = xs.length * t.size := by
          have a1 : lo * t.size ≤ xs.length * t.size := Nat.mul_le_mul_right _ (by omega)
          have a2 : (lo + k) * t.size ≤ xs.length * t.size := Nat.mul_le_mul_right _ hkn
          rw [Nat.add_mul] at a2
          simp only [List.length_append, List.length_take, List.length_drop, hcl, hnl, Nat.add_mul]
          have a3 : k * t.size ≤ ys.length * t.size := Nat.mul_le_mul_right _ k1
          omega
        refine c.write (l := l) hl (show t = t from rfl) (by simp) rfl rfl rfl (by simp [World.setRow]) (fun b _ hne => setRow_other _ _ _ _ fun e => hne (by rw [eψ, qa, e]; rfl)) (fun hl' => ⟨cells.take (lo * t.size) ++ (news.take (k * t.size) ++ cells.drop ((lo + k) * t.size)), ⟨by rw [hxl, hcell], .inr ⟨g, cap, _, by rw [hxl, eψ, qa, ← qc, hxn], hB, setRow_heap _ _ _ _ _ _ hg, by rw [hxl]; exact hnc, hcm, ?_, ?_⟩⟩, ?_⟩) (fun _ => ?_)
        · simp only [List.size_toArray, List.length_append, List.length_take, List.length_drop, Array.length_toList, hcs]
          have : k * t.size ≤ ys.length * t.size := Nat.mul_le_mul_right _ k1
          rw [hnl]
          omega
        · rw [hxl]
          have a2 : (lo + k) * t.size ≤ xs.length * t.size := Nat.mul_le_mul_right _ hkn
          have e2 := Nat.add_mul lo k t.size
          have hcur : cur.toList.length = cap * t.size := by rw [Array.length_toList]; exact hcs
          have hle : xs.length * t.size ≤ cap * t.size := Nat.mul_le_mul_right _ hnc
          rw [← ht]
          apply List.ext_getElem?
          intro j
          simp only [List.append_assoc, List.getElem?_append, List.getElem?_take, List.getElem?_drop, List.length_take, hnl, hcur]
          have m1 : min (lo * t.size) (cap * t.size) = lo * t.size := Nat.min_eq_left (by omega)
          have m2 : min (lo * t.size) (min (xs.length * t.size) (cap * t.size)) = lo * t.size := by omega
          have m3 : min (k * t.size) (ys.length * t.size) = k * t.size := Nat.min_eq_left (Nat.mul_le_mul_right _ k1)
          rw [m1, m2, m3]
          by_cases j1 : j < lo * t.size
          · have : j < xs.length * t.size := by omega
            simp [j1, this]
          · by_cases j2 : j - lo * t.size < k * t.size
            · have : j < xs.length * t.size := by omega
              simp [j1, j2, this]
            · by_cases j3 : j < xs.length * t.size
              · have j4 : (lo + k) * t.size + (j - lo * t.size - k * t.size) < xs.length * t.size := by omega
                simp only [j1, j2, j3, if_true, if_false, j4]
                congr 1
                omega
              · have j4 : ¬ (lo + k) * t.size + (j - lo * t.size - k * t.size) < xs.length * t.size := by omega
                simp [j1, j2, j3, j4]
        · obtain ⟨s1, s2⟩ := RowsBy.takes (n := t.size) (fun _ _ q => q.len) hrow (show lo ≤ xs.length by omega)
          obtain ⟨s3, s4⟩ := RowsBy.takes (n := t.size) (fun _ _ q => q.len) hrow hkn
          exact RowsBy.append (s1.mono fun _ _ _ q => q.later hl') (RowsBy.append (r1.mono fun _ _ _ q => q.later hl') (s4.mono fun _ _ _ q => q.later hl'))
        · have e : ((k : Nat) : Int) = ((min ys.length (hh - lo) : Nat) : Int) := by rw [hk']
          rw [e]; exact hav hmx
  unfold copyx at h
  split at h
  · cases h
  · rename_i ys hsrc
    split at h
    · rename_i l
      split at h
      · rename_i e' t' xs0 hl
        split at h
        · rename_i ee; subst ee
          obtain ⟨xs, hxs, e1⟩ := Option.map_eq_some_iff.1 h
          simp only [Prod.mk.injEq] at e1
          obtain ⟨rfl, rfl⟩ := e1
          obtain ⟨q, q'⟩ := cast?_some hxs
          injection q with q; subst q
          simp only at q'; subst q'
          have hl' := hlh _ _ hl
          have eX := hX _ hl'
          obtain ⟨cells, hown, hrow⟩ := c.hok.ob l _ hl'
          obtain ⟨A, cp, eψ⟩ : ∃ A cp, ψ l = .slice A xs0.length cp := ownsRow_slice hown
          have := main l xs0 ys 0 xs0.length A xs0.length cp hl' hsrc eψ (Nat.zero_le _) (Nat.le_refl _) ⟨cp, by rw [eX, eψ, Nat.sub_zero, Nat.zero_mul]; cases A <;> simp [Addr.add]⟩
          simp only [List.take_zero, List.nil_append, Nat.sub_zero, Nat.zero_add] at this
          have e3 : xs0.drop (min ys.length xs0.length) = xs0.drop ys.length := by
            rcases Nat.le_total ys.length xs0.length with q | q
            · rw [Nat.min_eq_left q]
            · rw [Nat.min_eq_right q, List.drop_length, List.drop_eq_nil_of_le q]
          rw [e3] at this
          exact this
        · cases h
      · cases h
    · rename_i l lo hh
      split at h
      · rename_i e' t' xs0 hl
        split at h
        · rename_i ee; subst ee
          obtain ⟨xs, hxs, e1⟩ := Option.map_eq_some_iff.1 h
          simp only [Prod.mk.injEq] at e1
          obtain ⟨rfl, rfl⟩ := e1
          obtain ⟨q, q'⟩ := cast?_some hxs
          injection q with q; subst q
          simp only at q'; subst q'
          have hl' := hlh _ _ hl
          obtain ⟨h1, A, n, cp, eψ, h2, eX⟩ := hX _ _ _ hl'
          exact main l xs0 ys lo hh A n cp hl' hsrc eψ h1 h2 ⟨cp - lo, eX⟩
        · cases h
      · cases h
    · cases h

/-! Calls. -/
theorem findEnt_mem {f : FuncId} {e : Ent} (h : findEnt C f = some e) : e ∈ C ∧ e.f = f := by
  unfold findEnt at h
  exact ⟨List.mem_of_find?_eq_some h, by simpa using List.find?_some h⟩
theorem rdCap_ok (h0 : HOK P B M hp ψ w) (hlh : ∀ l ob, lh l = some ob → hp l = some ob) {ls' : List Nat} : ∀ {t : Ty} {avs : List AV} {d : t.den} {ls : List Nat}, rdCap lh t avs = some (d, ls) → (∀ l ∈ ls, l ∈ ls') → ∀ {vs : List Value}, AVRs P hp ψ w (Mu M hp ψ) avs vs → RdL P t w (Mu M (kill hp ls') ψ) d vs
  | .nil, avs, d, ls, h, hs, vs, hv => by
    cases avs with
    | nil => obtain rfl : vs = [] := hv; exact rfl
    | cons x r => simp [rdCap] at h
  | .cons x y, avs, d, ls, h, hs, vs, hv => by
    cases avs with
    | nil => simp [rdCap] at h
    | cons av r =>
      obtain ⟨v, vs', rfl, q1, q2⟩ := hv
      simp only [rdCap] at h
      split at h
      · rename_i d1 l1 h1
        split at h
        · rename_i e1 l2 h2
          simp only [Option.some.injEq, Prod.mk.injEq] at h
          obtain ⟨rfl, rfl⟩ := h
          exact ⟨v, vs', rfl, rd_ok h0 hlh h1 q1 (fun l hl => hs l (List.mem_append_left _ hl)), rdCap_ok h0 hlh h2 (fun l hl => hs l (List.mem_append_right _ hl)) q2⟩
        · cases h
      · cases h
  | .bool, _, _, _, h, _, _, _ => by simp [rdCap] at h
  | .int _, _, _, _, h, _, _, _ => by simp [rdCap] at h
  | .str, _, _, _, h, _, _, _ => by simp [rdCap] at h
  | .sl _, _, _, _, h, _, _, _ => by simp [rdCap] at h
  | .ptr _, _, _, _, h, _, _, _ => by simp [rdCap] at h
  | .st _, _, _, _, h, _, _, _ => by simp [rdCap] at h
  | .fn _ _, _, _, _, h, _, _, _ => by simp [rdCap] at h
  | .fn2 _ _ _, _, _, _, h, _, _, _ => by simp [rdCap] at h
  | .mp _ _, _, _, _, h, _, _, _ => by simp [rdCap] at h
theorem RdL.later {w1 : World} {M1 M2 : Nat → Prop} (h : Later w M1 w1 M2) : ∀ {t : Ty} {d : t.den} {vs : List Value}, RdL P t w M1 d vs → RdL P t w1 M2 d vs
  | .nil, _, _, q => q
  | .cons x y, d, _, ⟨v, r, e, q1, q2⟩ => ⟨v, r, e, q1.later h, RdL.later h q2⟩
  | .bool, _, _, q => q.elim
  | .int _, _, _, q => q.elim
  | .str, _, _, q => q.elim
  | .sl _, _, _, q => q.elim
  | .ptr _, _, _, q => q.elim
  | .st _, _, _, q => q.elim
  | .fn _ _, _, _, q => q.elim
  | .fn2 _ _ _, _, _, q => q.elim
  | .mp _ _, _, _, q => q.elim
theorem shape_fn {a r : Ty} {f : Fn} {x y : Array Value} : (Ty.fn a r).shape (.func f x y) := by unfold Ty.shape Ty.isSt; simp
theorem shape_fn2 {a b r : Ty} {f : Fn} {x y : Array Value} : (Ty.fn2 a b r).shape (.func f x y) := by unfold Ty.shape Ty.isSt; simp
theorem rdClo_ok (hC : ∀ e ∈ C, Con P e) (h0 : HOK P B M hp ψ w) (hlh : ∀ l ob, lh l = some ob → hp l = some ob) {ls' : List Nat} {t : Ty} {f : FuncId} {cap : List AV} {p : Prop} {d : t.den} {ls : List Nat} (h : rdClo C lh t f cap = some (p, d, ls)) (hp' : p) (hs : ∀ l ∈ ls, l ∈ ls') {v : Value}
    (hv : AVR P hp ψ w (Mu M hp ψ) (.clo f cap) v) : RdV P t w (Mu M (kill hp ls') ψ) d v := by
  obtain ⟨us, rfl, q⟩ := hv
  unfold rdClo at h
  split at h
  · rename_i g x y z r pre F he
    obtain ⟨hm, hf⟩ := findEnt_mem he
    simp only at hf; subst hf
    obtain ⟨hfo, hcon⟩ := (hC _ hm).is rfl
    simp only at hfo hcon
    split at h
    · rename_i ds l1 h1
      obtain ⟨G, hG, e⟩ := Option.map_eq_some_iff.1 h
      simp only [Prod.mk.injEq] at e
      obtain ⟨rfl, rfl, rfl⟩ := e
      refine cast?_rdv hG ⟨shape_fn, g, us, rfl, hfo, fun w1 M1 hl s u hsh hu => ?_⟩
      have hcap := (rdCap_ok h0 hlh h1 hs q).later hl
      have hc := hcon (s, ds) (hp' s) w1 M1 (u :: us.toList) hl.bound ⟨u, us.toList, rfl, ⟨hsh, hu⟩, hcap⟩
      rw [show (u :: us.toList).toArray = #[u] ++ us by apply Array.ext'; simp] at hc
      refine Calls.mono hc ?_
      rintro en w2 ⟨v', rfl, hb, hr⟩
      exact ⟨v', rfl, hr.1, hr.2, hb⟩
    · split at h
      · rename_i ds l1 h1
        obtain ⟨G, hG, e⟩ := Option.map_eq_some_iff.1 h
        simp only [Prod.mk.injEq] at e
        obtain ⟨rfl, rfl, rfl⟩ := e
        refine cast?_rdv hG ⟨shape_fn2, g, us, rfl, hfo, fun w1 M1 hl s u s' u' hsh hu hsh' hu' => ?_⟩
        have hcap := (rdCap_ok h0 hlh h1 hs q).later hl
        have hc := hcon (s, s', ds) (hp' s s') w1 M1 (u :: u' :: us.toList) hl.bound ⟨u, u' :: us.toList, rfl, ⟨hsh, hu⟩, u', us.toList, rfl, ⟨hsh', hu'⟩, hcap⟩
        rw [show (u :: u' :: us.toList).toArray = #[u, u'] ++ us by apply Array.ext'; simp] at hc
        refine Calls.mono hc ?_
        rintro en w2 ⟨v', rfl, hb, hr⟩
        exact ⟨v', rfl, hr.1, hr.2, hb⟩
      · cases h
  · rename_i g x r pre F he
    obtain ⟨hm, hf⟩ := findEnt_mem he
    simp only at hf; subst hf
    obtain ⟨hfo, hcon⟩ := (hC _ hm).is rfl
    simp only at hfo hcon
    split at h
    · obtain ⟨G, hG, e⟩ := Option.map_eq_some_iff.1 h
      simp only [Prod.mk.injEq] at e
      obtain ⟨rfl, rfl, rfl⟩ := e
      have hus : us.toList = [] := q
      refine cast?_rdv hG ⟨shape_fn, g, us, rfl, hfo, fun w1 M1 hl s u hsh hu => ?_⟩
      have hc := hcon (s, ()) (hp' s) w1 M1 [u] hl.bound ⟨u, [], rfl, ⟨hsh, hu⟩, rfl⟩
      rw [show [u].toArray = #[u] ++ us by apply Array.ext'; simp [hus]] at hc
      refine Calls.mono hc ?_
      rintro en w2 ⟨v', rfl, hb, hr⟩
      exact ⟨v', rfl, hr.1, hr.2, hb⟩
    · cases h
  · cases h
theorem rdA_ok (hC : ∀ e ∈ C, Con P e) (h0 : HOK P B M hp ψ w) (hlh : ∀ l ob, lh l = some ob → hp l = some ob) {ls' : List Nat} {t : Ty} {av : AV} {p : Prop} {d : t.den} {ls : List Nat} (h : rdA C lh t av = some (p, d, ls)) (hp' : p) (hs : ∀ l ∈ ls, l ∈ ls') {v : Value}
    (hv : AVR P hp ψ w (Mu M hp ψ) av v) : RdV P t w (Mu M (kill hp ls') ψ) d v := by
  unfold rdA at h
  split at h
  · exact rdClo_ok hC h0 hlh h hp' hs hv
  · obtain ⟨x, hx, e⟩ := Option.map_eq_some_iff.1 h
    simp only [Prod.mk.injEq] at e
    obtain ⟨_, rfl, rfl⟩ := e
    exact rd_ok h0 hlh hx hv hs
theorem rdL_ok (hC : ∀ e ∈ C, Con P e) (h0 : HOK P B M hp ψ w) (hlh : ∀ l ob, lh l = some ob → hp l = some ob) {ls' : List Nat} : ∀ {t : Ty} {avs : List AV} {p : Prop} {d : t.den} {ls : List Nat}, rdL C lh t avs = some (p, d, ls) → p → (∀ l ∈ ls, l ∈ ls') → ∀ {vs : List Value}, AVRs P hp ψ w (Mu M hp ψ) avs vs → RdL P t w (Mu M (kill hp ls') ψ) d vs
  | .nil, avs, p, d, ls, h, hp', hs, vs, hv => by
    cases avs with
    | nil => obtain rfl : vs = [] := hv; exact rfl
    | cons x r => simp [rdL] at h
  | .cons x y, avs, p, d, ls, h, hp', hs, vs, hv => by
    cases avs with
    | nil => simp [rdL] at h
    | cons av r =>
      obtain ⟨v, vs', rfl, q1, q2⟩ := hv
      simp only [rdL] at h
      split at h
      · rename_i p1 d1 l1 h1
        split at h
        · rename_i p2 e1 l2 h2
          simp only [Option.some.injEq, Prod.mk.injEq] at h
          obtain ⟨rfl, rfl, rfl⟩ := h
          exact ⟨v, vs', rfl, rdA_ok hC h0 hlh h1 hp'.1 (fun l hl => hs l (List.mem_append_left _ hl)) q1, rdL_ok hC h0 hlh h2 hp'.2 (fun l hl => hs l (List.mem_append_right _ hl)) q2⟩
        · cases h
      · cases h
  | .bool, _, _, _, _, h, _, _, _, _ => by simp [rdL] at h
  | .int _, _, _, _, _, h, _, _, _, _ => by simp [rdL] at h
  | .str, _, _, _, _, h, _, _, _, _ => by simp [rdL] at h
  | .sl _, _, _, _, _, h, _, _, _, _ => by simp [rdL] at h
  | .ptr _, _, _, _, _, h, _, _, _, _ => by simp [rdL] at h
  | .st _, _, _, _, _, h, _, _, _, _ => by simp [rdL] at h
  | .fn _ _, _, _, _, _, h, _, _, _, _ => by simp [rdL] at h
  | .fn2 _ _ _, _, _, _, _, h, _, _, _, _ => by simp [rdL] at h
  | .mp _ _, _, _, _, _, h, _, _, _, _ => by simp [rdL] at h
/-- Data without references read the same whatever may turn. -/
theorem scalar_rd {w1 : World} {M1 M2 : Nat → Prop} : ∀ {t : Ty} {d : t.den} {cs : List Value}, t.scalar = true → Rd P t w M1 d cs → Rd P t w1 M2 d cs
  | .bool, _, _, _, q => q
  | .int _, _, _, _, q => q
  | .str, _, _, _, q => q
  | .nil, _, _, _, q => q
  | .st t, _, _, h, q => scalar_rd (t := t) h q
  | .cons x y, _, _, h, ⟨c1, c2, e, q1, q2⟩ => by
    simp only [Ty.scalar, Bool.and_eq_true] at h
    exact ⟨c1, c2, e, scalar_rd h.1 q1, scalar_rd h.2 q2⟩
  | .sl _, _, _, h, _ => by simp [Ty.scalar] at h
  | .ptr _, _, _, h, _ => by simp [Ty.scalar] at h
  | .fn _ _, _, _, h, _ => by simp [Ty.scalar] at h
  | .fn2 _ _ _, _, _, h, _ => by simp [Ty.scalar] at h
  | .mp _ _, _, _, h, _ => by simp [Ty.scalar] at h
theorem scalar_rdl {w1 : World} {M1 M2 : Nat → Prop} : ∀ {t : Ty} {d : t.den} {vs : List Value}, t.scalar = true → RdL P t w M1 d vs → RdL P t w1 M2 d vs
  | .nil, _, _, _, q => q
  | .cons x y, _, _, h, ⟨v, r, e, q1, q2⟩ => by
    simp only [Ty.scalar, Bool.and_eq_true] at h
    exact ⟨v, r, e, ⟨q1.1, scalar_rd h.1 q1.2⟩, scalar_rdl h.2 q2⟩
  | .bool, _, _, _, q => q.elim
  | .int _, _, _, _, q => q.elim
  | .str, _, _, _, q => q.elim
  | .sl _, _, _, _, q => q.elim
  | .ptr _, _, _, _, q => q.elim
  | .st _, _, _, _, q => q.elim
  | .fn _ _, _, _, _, q => q.elim
  | .fn2 _ _ _, _, _, _, q => q.elim
  | .mp _ _, _, _, _, q => q.elim
theorem resAVs_ok {hp : Hp} {M' : Nat → Prop} : ∀ {t : Ty} {d : t.den} {vs : List Value}, RdL P t w M' d vs → AVRs P hp ψ w M' (resAVs t d) vs
  | .nil, _, _, q => q
  | .cons x y, _, _, ⟨v, r, e, q1, q2⟩ => ⟨v, r, e, q1, resAVs_ok q2⟩
  | .bool, _, _, q => q.elim
  | .int _, _, _, q => q.elim
  | .str, _, _, q => q.elim
  | .sl _, _, _, q => q.elim
  | .ptr _, _, _, q => q.elim
  | .st _, _, _, q => q.elim
  | .fn _ _, _, _, q => q.elim
  | .fn2 _ _ _, _, _, q => q.elim
  | .mp _ _, _, _, q => q.elim
theorem kill_bound (h0 : HOK P B M hp ψ w) (ls : List Nat) : ∀ b, Mu M (kill hp ls) ψ b → b < w.heap.size := fun b q => h0.mu b (kill_mu b q)
theorem rows_scalar {w1 : World} {M1 M2 : Nat → Prop} {t : Ty} (h : t.scalar = true) {xs : List t.den} {cs : List Value} (q : RowsBy (fun x c => Rd P t w M1 x c) xs cs) : RowsBy (fun x c => Rd P t w1 M2 x c) xs cs := q.mono fun _ _ _ q => scalar_rd h q
theorem fresh_ok {r : Ty} {res : r.den} {e : TypeId} {ls : List Nat} {e1 : Eff} {v : Value} (he1 : freshEff fr e ls r res = some e1) (hb : Below w.heap.size w w') (hres : Fresh P w.heap.size w' (Mu M (kill hp ls) ψ) e r res v) (c : Ctx P B M hp ψ w fr) : OpPost P B M hp ψ w fr e1 v w' := by
  cases r with
  | sl t =>
    simp only [freshEff, Option.some.injEq] at he1
    subst he1
    obtain ⟨cells, hown, hrow⟩ := hres
    by_cases hs : t.scalar = true
    · rw [if_pos hs]
      exact new_row c hb hown fun _ => rows_scalar hs hrow
    · rw [if_neg hs]
      refine new_row c hb hown fun hl => hrow.mono fun x _ cc q => q.later ⟨Nat.le_refl _, fun _ _ _ => rfl, fun b _ q => ?_, hl.bound⟩
      rcases q with q | ⟨l, ob, q1, q2⟩
      · exact .inl (.inl q)
      · by_cases el : l = fr
        · subst el; rw [upd'_same] at q2; exact .inr q2
        · rw [putHp_other _ _ el] at q1; rw [upd'_other _ _ el] at q2
          exact .inl (.inr ⟨l, ob, q1, q2⟩)
  | _ => simp [freshEff] at he1
theorem plain_ok (h0 : HOK P B M hp ψ w) (hlh : ∀ l ob, lh l = some ob → hp l = some ob) {l : Nat} {ob : OB} (hl : hp l = some ob) : ∀ {avs : List AV} {us : List Value}, avs.all (plainArg lh l) = true → AVRs P hp ψ w (Mu M hp ψ) avs us →
    ∀ u ∈ us, ∀ b, blk u = some b → blk (ψ l) ≠ some b ∧ ∃ cur e, w.heap[b]? = some (.cells cur e (0, 0))
  | [], us, _, h => by obtain rfl : us = [] := h; intro u hu; simp at hu
  | av :: r, _, hall, ⟨v, vs, e, q1, q2⟩ => by
    subst e
    simp only [List.all_cons, Bool.and_eq_true] at hall
    intro u hu b hb
    rcases List.mem_cons.1 hu with rfl | hu
    · have hp1 := hall.1
      unfold plainArg at hp1
      split at hp1
      · rename_i k
        simp only [Bool.and_eq_true, bne_iff_ne] at hp1
        obtain ⟨hne, hp1⟩ := hp1
        split at hp1
        · rename_i e t xs hk
          have hk' := hlh _ _ hk
          obtain rfl : u = ψ k := q1 _ hk'
          refine ⟨fun q => hne (h0.dj _ _ _ _ b hk' hl hb q), ?_⟩
          obtain ⟨cells, hown, _⟩ := h0.ob k _ hk'
          rcases hown.2 with ⟨q, _⟩ | ⟨g, cap, cur, q, _, hg, _⟩
          · rw [q] at hb; simp [blk] at hb
          · rw [q] at hb; simp only [blk, Option.some.injEq] at hb; subst hb
            exact ⟨cur, _, hg⟩
        · cases hp1
      · rename_i t d
        split at hp1
        · rw [avr_bool q1] at hb; simp [blk] at hb
        · rw [(avr_int q1).1] at hb; simp [blk] at hb
        · rw [avr_str q1] at hb; simp [blk] at hb
        · obtain ⟨cs, e⟩ := q1.1.2 rfl
          rw [e] at hb; simp [blk] at hb
        · cases hp1
      · obtain ⟨us, e, _⟩ := q1
        rw [e] at hb; simp [blk] at hb
      · cases hp1
    · exact plain_ok h0 hlh hl hall.2 q2 u hu b hb
theorem isNilV_eq {u : Value} (h : isNilV u = true) : u = .slice none 0 0 := by
  unfold isNilV at h
  split at h
  · rfl
  · cases h
theorem nil_ok (h0 : HOK P B M hp ψ w) (hlh : ∀ l ob, lh l = some ob → hp l = some ob) {l : Nat} : ∀ {avs : List AV} {us : List Value}, avs.all (plainArg lh l) = true → AVRs P hp ψ w (Mu M hp ψ) avs us →
    ∀ u ∈ us, ∀ b, blk u = some b → blk (.slice none 0 0) ≠ some b ∧ ∃ cur e, w.heap[b]? = some (.cells cur e (0, 0))
  | [], us, _, h => by obtain rfl : us = [] := h; intro u hu; simp at hu
  | av :: r, _, hall, ⟨v, vs, e, q1, q2⟩ => by
    subst e
    simp only [List.all_cons, Bool.and_eq_true] at hall
    intro u hu b hb
    rcases List.mem_cons.1 hu with rfl | hu
    · have hp1 := hall.1
      unfold plainArg at hp1
      split at hp1
      · rename_i k
        simp only [Bool.and_eq_true, bne_iff_ne] at hp1
        obtain ⟨hne, hp1⟩ := hp1
        split at hp1
        · rename_i e t xs hk
          have hk' := hlh _ _ hk
          obtain rfl : u = ψ k := q1 _ hk'
          refine ⟨fun q => by simp [blk] at q, ?_⟩
          obtain ⟨cells, hown, _⟩ := h0.ob k _ hk'
          rcases hown.2 with ⟨q, _⟩ | ⟨g, cap, cur, q, _, hg, _⟩
          · rw [q] at hb; simp [blk] at hb
          · rw [q] at hb; simp only [blk, Option.some.injEq] at hb; subst hb
            exact ⟨cur, _, hg⟩
        · cases hp1
      · rename_i t d
        split at hp1
        · rw [avr_bool q1] at hb; simp [blk] at hb
        · rw [(avr_int q1).1] at hb; simp [blk] at hb
        · rw [avr_str q1] at hb; simp [blk] at hb
        · obtain ⟨cs, e⟩ := q1.1.2 rfl
          rw [e] at hb; simp [blk] at hb
        · cases hp1
      · obtain ⟨us, e, _⟩ := q1
        rw [e] at hb; simp [blk] at hb
      · cases hp1
    · exact nil_ok h0 hlh hall.2 q2 u hu b hb
theorem own_ok (hC : ∀ e ∈ C, Con P e) (hlh : ∀ l ob, lh l = some ob → hp l = some ob) {ent : Ent} {avs : List AV} {vs : List Value} {p : Prop} {eff : Eff} (hv : AVRs P hp ψ w (Mu M hp ψ) avs vs) (h : ownx C lh fr ent avs = some (p, eff)) (hp' : p) (c : Ctx P B M hp ψ w fr) (hcon : OwnCon P ent) :
    funcOk P ent.f = true ∧ Calls P ent.f vs.toArray w fun e w' => ∃ v, e = .returned v ∧ OpPost P B M hp ψ w fr eff v w' := by
  unfold ownx at h
  split at h
  rotate_left
  · rename_i f t ar t' many T pre F u0 rest
    obtain ⟨hfo, hcon⟩ := hcon
    refine ⟨hfo, ?_⟩
    split at h
    rotate_left
    · cases h
    rename_i hnil
    have hu0 := isNilV_eq hnil
    subst hu0
    split at h
    rotate_left
    · cases h
    rename_i p1 d ls hrd
    split at h
    · cases h
    rename_i hns
    simp only [Bool.or_eq_true, Bool.not_eq_true', not_or, Bool.not_eq_false] at hns
    obtain ⟨⟨hs, hs'⟩, hpl⟩ := hns
    simp only [Option.some.injEq, Prod.mk.injEq] at h
    obtain ⟨rfl, rfl⟩ := h
    obtain ⟨v, us, rfl, hq, hqs⟩ := hv
    have hv0 : v = .slice none 0 0 := hq
    subst hv0
    have hargs := rdL_ok hC c.hok hlh hrd hp'.1 (fun _ h => h) hqs
    have hown0 : w.ownsRow 0 T t.size (.slice none 0 0) ([] : List t.den).length [] := ⟨by simp, .inl ⟨rfl, rfl⟩⟩
    refine Calls.mono (hcon [] d hp'.2 w (Mu M (kill hp ls) ψ) (.slice none 0 0) us [] (kill_bound c.hok ls) (fun b hb => by simp [blk] at hb) hown0 rfl hargs (nil_ok c.hok hlh hpl hqs)) ?_
    rintro en w' ⟨v', cells', rfl, k1, k2, k3, k4⟩
    refine ⟨v', rfl, ?_⟩
    have hB : ∀ b, blk v' = some b → w.heap.size ≤ b := fun b hb => by
      rcases k4 with k4 | ⟨g, k4, k5⟩
      · rw [k4] at hb; simp [blk] at hb
      · rw [k4] at hb; injection hb with hb; subst hb; exact k5
    have k1' : w'.ownsRow B T t'.size v' (F ([], d)).length cells' := by
      refine ⟨k1.1, ?_⟩
      rcases k1.2 with q | ⟨g, cap, cur, q1, _, q3⟩
      · exact .inl q
      · exact .inr ⟨g, cap, cur, q1, Nat.le_trans c.hok.bz (hB g (by rw [q1]; rfl)), q3⟩
    refine c.news (u := v') k3.os k3.tape k3.output k3.size (fun b hb hne => k3.block b hb fun eb => by simp [Value.ownBlock] at eb) (fun b hb => ?_) (fun hl => ⟨cells', by rw [upd'_same]; exact k1', rows_scalar hs' k2⟩) (fun _ ob _ => by simp)
    exact .inl ⟨hB b hb, (ownsRow_blk k1 hb).2⟩
  · cases h
  rename_i f t ar t' many T pre F l rest
  obtain ⟨hfo, hcon⟩ := hcon
  refine ⟨hfo, ?_⟩
  split at h
  rotate_left
  · cases h
  rename_i e t'' xs hl
  split at h
  rotate_left
  · cases h
  rename_i heT
  subst heT
  split at h
  rotate_left
  · cases h
  rename_i ys hcast
  obtain ⟨q, q'⟩ := cast?_some hcast
  simp only [Ty.sl.injEq] at q
  subst q
  simp only at q'; subst q'
  split at h
  rotate_left
  · cases h
  rename_i p1 d ls hrd
  split at h
  · cases h
  rename_i hns
  simp only [Bool.or_eq_true, List.contains_iff_mem, Bool.not_eq_true', not_or, Bool.not_eq_false] at hns
  obtain ⟨⟨⟨hn, hs⟩, hs'⟩, hpl⟩ := hns
  simp only [Option.some.injEq, Prod.mk.injEq] at h
  obtain ⟨rfl, rfl⟩ := h
  obtain ⟨v, us, rfl, hq, hqs⟩ := hv
  have hl' := hlh l _ hl
  have hvl : v = ψ l := hq _ hl'
  subst hvl
  obtain ⟨cells, hown, hrow⟩ := c.hok.ob l _ hl'
  have hMl : ∀ b, blk (ψ l) = some b → Mu M (kill hp ls) ψ b := fun b hb => .inr ⟨l, _, by unfold kill; rw [if_neg hn]; exact hl', hb⟩
  have hargs := rdL_ok hC c.hok hlh hrd hp'.1 (fun _ h => h) hqs
  have hown0 : w.ownsRow 0 e t''.size (ψ l) xs.length cells := by
    refine ⟨hown.1, ?_⟩
    rcases hown.2 with q | ⟨g, cap, cur, q1, _, q3⟩
    · exact .inl q
    · exact .inr ⟨g, cap, cur, q1, Nat.zero_le _, q3⟩
  refine Calls.mono (hcon xs d hp'.2 w (Mu M (kill hp ls) ψ) (ψ l) us cells (kill_bound c.hok ls) hMl hown0 (rows_scalar hs hrow) hargs (plain_ok c.hok hlh hl' hpl hqs)) ?_
  rintro en w' ⟨v', cells', rfl, k1, k2, k3, k4⟩
  refine ⟨v', rfl, ?_⟩
  obtain ⟨A, cX, eX⟩ := ownsRow_slice hown
  obtain ⟨A', cX', eX'⟩ := ownsRow_slice k1
  have hB : ∀ b, blk v' = some b → B ≤ b := fun b hb => by
    rcases k4 with k4 | ⟨g, k4, k5⟩
    · exact (ownsRow_blk hown (by rw [← k4]; exact hb)).1
    · rw [k4] at hb; injection hb with hb; subst hb; exact Nat.le_trans c.hok.bz k5
  have k1' : w'.ownsRow B e t'.size v' (F (xs, d)).length cells' := by
    refine ⟨k1.1, ?_⟩
    rcases k1.2 with q | ⟨g, cap, cur, q1, _, q3⟩
    · exact .inl q
    · exact .inr ⟨g, cap, cur, q1, hB g (by rw [q1]; rfl), q3⟩
  refine c.news (u := v') k3.os k3.tape k3.output k3.size (fun b hb hne => k3.block b hb fun eb => ?_) (fun b hb => ?_) (fun hl => ⟨cells', by rw [upd'_same]; exact k1', rows_scalar hs' k2⟩) (fun _ ob _ => by simp)
  · exact hne l (by simp) _ hl' (by rw [blk_own eX]; exact eb.symm)
  · rcases k4 with k4 | ⟨g, k4, k5⟩
    · exact .inr ⟨l, by simp, _, hl', by rw [← k4]; exact hb⟩
    · left
      rw [k4] at hb; injection hb with hb; subst hb
      exact ⟨k5, (ownsRow_blk k1 k4).2⟩
theorem call_ok (hC : ∀ e ∈ C, Con P e) (hlh : ∀ l ob, lh l = some ob → hp l = some ob) {f : FuncId} {avs : List AV} {vs : List Value} {p : Prop} {eff : Eff} (hv : AVRs P hp ψ w (Mu M hp ψ) avs vs) (h : callx C lh fr f avs = some (p, eff)) (hp' : p) (c : Ctx P B M hp ψ w fr) :
    funcOk P f = true ∧ Calls P f vs.toArray w fun e w' => ∃ v, e = .returned v ∧ OpPost P B M hp ψ w fr eff v w' := by
  unfold callx at h
  split at h
  · cases h
  · rename_i ent he
    obtain ⟨hm, rfl⟩ := findEnt_mem he
    by_cases hown : ent.own = true
    · rw [if_pos hown] at h
      exact own_ok hC hlh hv h hp' c (by have := hC _ hm; unfold Con at this; rwa [if_pos hown] at this)
    rw [if_neg hown] at h
    obtain ⟨hfo, hcon⟩ := (hC _ hm).is (by simpa using hown)
    refine ⟨hfo, ?_⟩
    split at h
    · cases h
    · rename_i p1 d ls h1
      have run : p1 → ent.pre d → Calls P ent.f vs.toArray w fun en w' => ∃ v, en = .returned v ∧ Below w.heap.size w w' ∧ (match ent.fresh with
          | some t => Fresh P w.heap.size w' (Mu M (kill hp ls) ψ) t ent.r (ent.F d) v
          | none => RdRes P ent.many ent.r w' (Mu M (kill hp ls) ψ) (ent.F d) v) := fun q1 q2 =>
        hcon d q2 w (Mu M (kill hp ls) ψ) vs (kill_bound c.hok ls) (rdL_ok hC c.hok hlh h1 q1 (fun _ h => h) hv)
      cases hf : ent.fresh with
      | none =>
        rw [hf] at h
        simp only [Option.some.injEq, Prod.mk.injEq] at h
        obtain ⟨rfl, rfl⟩ := h
        have hr := run hp'.1 hp'.2
        simp only [hf] at hr
        refine Calls.mono hr ?_
        rintro en w' ⟨v, rfl, hb, hres⟩
        refine ⟨v, rfl, ?_⟩
        have hav : ∀ hp0 M0, (ent.r.scalar = true ∨ M0 = Mu M (kill hp ls) ψ) → AVR P hp0 ψ w' M0 (if ent.many then .tup (resAVs ent.r (ent.F d)) else .val ent.r (ent.F d)) v := by
          intro hp0 M0 hM
          unfold RdRes at hres
          by_cases hmany : ent.many = true
          · rw [if_pos hmany] at hres
            rw [if_pos hmany]
            obtain ⟨us, rfl, q⟩ := hres
            refine ⟨us, rfl, resAVs_ok ?_⟩
            rcases hM with hM | rfl
            · exact scalar_rdl hM q
            · exact q
          · rw [if_neg hmany] at hres
            rw [if_neg hmany]
            rcases hM with hM | rfl
            · exact ⟨hres.1, scalar_rd hM hres.2⟩
            · exact hres
        by_cases hs : ent.r.scalar = true
        · rw [if_pos hs]
          exact c.quiet hb (hav _ _ (.inl hs))
        · rw [if_neg hs]
          exact c.kills hb (hav _ _ (.inr rfl))
      | some t =>
        rw [hf] at h
        simp only at h
        obtain ⟨e1, he1, e2⟩ := Option.map_eq_some_iff.1 h
        simp only [Prod.mk.injEq] at e2
        obtain ⟨rfl, rfl⟩ := e2
        have hr := run hp'.1 hp'.2
        simp only [hf] at hr
        refine Calls.mono hr ?_
        rintro en w' ⟨v, rfl, hb, hres⟩
        exact ⟨v, rfl, fresh_ok he1 hb hres c⟩
end
end T
end Go.Proofs.Ytbbpiihbhdagnaa
