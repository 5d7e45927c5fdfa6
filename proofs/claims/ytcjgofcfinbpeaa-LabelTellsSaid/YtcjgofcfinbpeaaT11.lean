/- Typed abstract walk, part 11: each operation does what the walk says (6): appends and calls. -/
import Derived.Test.YtcjgofcfinbpeaaT10
namespace Go.Proofs.Ytcjgofcfinbpeaa
set_option linter.unusedVariables false
set_option linter.unusedSimpArgs false
open Go.RowKit
namespace T
/-- The slice value v' lies where v lay, or in a block that is new since w. -/
def Near (w : World) (v v' : Value) : Prop := v'.ownBlock = v.ownBlock ∨ ∃ g, v'.ownBlock = some g ∧ w.heap.size ≤ g
section
variable {P : Program} {w : World}
theorem append_near (base : Nat) (t ty e : TypeId) (i : TypeInfo) (z : Value) (size bytes : Nat) (ht : P.underlying t = some (.slice e)) (hi : P.info? e = some i) (hz : i.zero = some z)
    (hsize : i.size = size) (hby : i.bytes = bytes) (hzs : z.cells.size = size) (hsz : 0 < size)
    (v : Value) (n : Nat) (xs : List Value) (hown : w.ownsRow base e size v n xs)
    (a : Addr) (m c : Nat) (news : List Value) (hl : news.length = m * size) (hnews : ∀ j u, news[j]? = some u → w.cell? (a.add j) = some u) (h1 : ∀ u ∈ news, u.oneCell' = true)
    (h63 : n + m ≤ maxLen) (hbytes : (n + m) * bytes ≤ 140737488355328) (hbase : base ≤ w.heap.size) :
    ∃ v' w', (Builtin.append_ #[t, t] ty #[v, .slice (some a) m c]).run P w = .ok v' w' ∧ w'.ownsRow base e size v' (n + m) (xs ++ news) ∧ w.grownBy w' v.ownBlock ∧ Near w v v' := by
  obtain ⟨v', w', hr, k2, k3, k4⟩ := run_append_own (P := P) w base t ty e i z size bytes ht hi hz hsize hby hzs hsz v n xs hown a m c news hl hnews h1 h63 hbytes hbase
  refine ⟨v', w', hr, k2, k3, ?_⟩
  have hs : n + m ≤ 9223372036854775807 := by simp only [maxLen] at h63; omega
  rcases hown.2 with ⟨rfl, rfl⟩ | ⟨g, cap, cur, rfl, _, hg, hnc, _, hcs, _⟩
  · by_cases hm : m = 0
    · exact .inl (by rw [(k4.2 ⟨rfl, hm⟩)])
    · have q := run_append_nil (P := P) w t ty e i z ht hi hz a m c news (by rw [hl, hsize]) hnews (by omega) (by omega) (by rw [hby]; have hb := hbytes; simp only [Nat.zero_add] at hb; omega)
      rw [q] at hr
      injection hr with h5
      exact .inr ⟨_, by rw [← h5]; rfl, Nat.le_refl _⟩
  · by_cases hroom : n + m ≤ cap
    · have q := run_append_room (P := P) w t ty e i ht hi g n cap cur hg a m c news (by rw [hl, hsize]) hnews h1 hroom (by rw [hl, hsize, hcs, ← Nat.add_mul]; exact Nat.mul_le_mul_right _ hroom)
      rw [q] at hr
      injection hr with h5
      exact .inl (by rw [← h5]; rfl)
    · have holds : ∀ j u, xs[j]? = some u → w.cell? ((⟨g, 0, none⟩ : Addr).add j) = some u := hown.cells (g := g) rfl
      have q := run_append_grow (P := P) w t ty e i z ht hi hz ⟨g, 0, none⟩ n cap xs (by rw [hsize]; exact hown.1) holds a m c news (by rw [hl, hsize]) hnews (by omega) (by omega) (by rw [hby]; exact growslice_fits (by omega) hbytes)
      rw [q] at hr
      injection hr with h5
      exact .inr ⟨_, by rw [← h5]; rfl, Nat.le_refl _⟩


theorem append_nilsrc (base : Nat) (t ty e : TypeId) (i : TypeInfo) (size : Nat) (ht : P.underlying t = some (.slice e)) (hi : P.info? e = some i) (v : Value) (n c : Nat) (xs : List Value) (hown : w.ownsRow base e size v n xs) :
    (Builtin.append_ #[t, t] ty #[v, .slice none 0 c]).run P w = .ok v w := by
  rcases hown.2 with ⟨rfl, rfl⟩ | ⟨g, cap, cur, rfl, _, hg, hnc, _⟩
  · simp [Builtin.append_, run_underlying ht, sizeOf, typeInfo, hi, Builtin.lenOf, Builtin.firstCells]
  · simp [Builtin.append_, run_underlying ht, sizeOf, typeInfo, hi, Builtin.lenOf, Builtin.firstCells, hnc, storeCells]
end
section
variable {P : Program} {B : Nat} {M : Nat → Prop} {hp lh : Hp} {ψ : Nat → Value} {w w' : World} {fr : Nat} {C : List Ent} {o : Oper} {a : Act}
theorem blk_own {v : Value} {A : Option Addr} {n c : Nat} (h : v = .slice A n c) : blk v = v.ownBlock := by subst h; cases A <;> rfl
theorem ownsRow_slice {e : TypeId} {s : Nat} {v : Value} {n : Nat} {xs : List Value} (h : w.ownsRow B e s v n xs) : ∃ A c, v = .slice A n c := by
  rcases h.2 with ⟨rfl, rfl⟩ | ⟨g, cap, cur, rfl, _⟩
  · exact ⟨_, _, rfl⟩
  · exact ⟨_, _, rfl⟩
/-- The slice that is appended, in memory. -/
theorem src_ok (h0 : HOK P B M hp ψ w) (hlh : ∀ l ob, lh l = some ob → hp l = some ob) {t : Ty} {x : AV} {ys : List t.den} (h : srcx lh t x = some ys) {v : Value} (hX : AVR P hp ψ w (Mu M hp ψ) x v) :
    (∃ c, v = .slice none 0 c ∧ ys = []) ∨ ∃ ad c cells, v = .slice (some ad) ys.length c ∧ (∀ j u, cells[j]? = some u → w.cell? (ad.add j) = some u) ∧ RowsBy (fun x c => Rd P t w (Mu M hp ψ) x c) ys cells := by
  have cast_sl : ∀ {t' : Ty} {xs : List t'.den} {ys : List t.den}, cast? (.sl t) (.sl t') xs = some ys → ∀ {cells : List Value}, RowsBy (fun x c => Rd P t' w (Mu M hp ψ) x c) xs cells → ys.length = xs.length ∧ RowsBy (fun x c => Rd P t w (Mu M hp ψ) x c) ys cells := by
    intro t' xs ys hc cells hr
    obtain ⟨q, q'⟩ := cast?_some hc
    injection q with q; subst q
    simp only at q'; subst q'
    exact ⟨rfl, hr⟩
  have nil_sl : ∀ {t' : Ty} {xs : List t'.den} {ys : List t.den}, cast? (.sl t) (.sl t') xs = some ys → xs.length = 0 → ys = [] := by
    intro t' xs ys hc hr
    obtain ⟨q, q'⟩ := cast?_some hc
    injection q with q; subst q
    simp only at q'; subst q'
    exact List.eq_nil_of_length_eq_zero hr
  unfold srcx at h
  split at h
  · rename_i l
    split at h
    · rename_i e t' xs hl
      have hl' := hlh _ _ hl
      obtain rfl := hX _ hl'
      obtain ⟨cells, hown, hrow⟩ := h0.ob l _ hl'
      obtain ⟨k1, k2⟩ := cast_sl h hrow
      rcases id hown.2 with ⟨q, q'⟩ | ⟨g, cap, cur, q, _⟩
      · exact .inl ⟨0, q, nil_sl h q'⟩
      · exact .inr ⟨⟨g, 0, none⟩, cap, cells, by rw [k1, q], fun j u hj => hown.cells (g := g) (by rw [q]; rfl) j u hj, k2⟩
    · cases h
  · rename_i t' xs
    obtain ⟨A, n, c, e1, e2, e3, e4, e5⟩ := (RdV.one (t := .sl t') hX rfl rfl).1
    simp only [List.cons.injEq, and_true] at e1
    rcases e5 with e5 | ⟨b, off, cc, rfl, h1, h2, h3, h4⟩
    · have hy := nil_sl h (by omega)
      subst hy
      rcases A with _ | ad
      · exact .inl ⟨c, by rw [e1, e5], rfl⟩
      · exact .inr ⟨ad, c, [], by rw [e1, e5]; rfl, fun j u hj => by simp at hj, rfl⟩
    · obtain ⟨k1, k2⟩ := cast_sl h h4
      exact .inr ⟨⟨b, off, none⟩, c, cc, by rw [e1, k1, e2], fun j u hj => by rw [Addr.add_mid]; exact h3 j u hj, k2⟩
  · injection h with h; subst h
    obtain rfl : v = _ := hX
    exact .inl ⟨0, rfl, rfl⟩
  · cases h
theorem append_ok {T e : TypeId} {t : Ty} {bytes : Nat} {X Y : Operand} {x y : AV} {p : Prop} {eff : Eff} (ho : o.op = .call ⟨.builtin .append, #[X, Y], #[T, T]⟩) (hT : elemOk P T e t = true) (hz : zeroIs P e t = true) (hb : (P.info? e).map (·.bytes) = some bytes) (hb0 : bytes ≠ 0) (hs0 : t.size ≠ 0)
    (hlh : ∀ l ob, lh l = some ob → hp l = some ob) (hX : AVR P hp ψ w (Mu M hp ψ) x (a.eval X)) (hY : AVR P hp ψ w (Mu M hp ψ) y (a.eval Y)) (h : appendx lh fr e t bytes x y = some (p, eff)) (hp' : p) (c : Ctx P B M hp ψ w fr) :
    Does P o a w (OpPost P B M hp ψ w fr eff) := by
  obtain ⟨hu, i, hi, his⟩ := elemOk_spec hT
  obtain ⟨i', z, hi', hz', hrd⟩ := zeroIs_spec hz
  rw [hi] at hi'; injection hi' with hi'; subst hi'
  rw [hi] at hb
  simp only [Option.map_some, Option.some.injEq] at hb
  have hzs : z.cells.size = t.size := by have := (hrd w (fun _ => False)).len; simpa using this
  have hex : ∀ v' w', (Builtin.append_ #[T, T] o.type #[a.eval X, a.eval Y]).run P w = .ok v' w' → (execOp a.eval o).run P w = .ok (.value v') w' := by
    intro v' w' hr
    unfold execOp
    simp only [ho]
    simp [resolve, invoke, builtin, hr]
  -- what is common: a row that is owned, or nil
  have main : ∀ (ks : List Nat) (xs ys : List t.den) (cells : List Value), srcx lh t y = some ys → w.ownsRow B e t.size (a.eval X) xs.length cells → RowsBy (fun x c => Rd P t w (Mu M hp ψ) x c) xs cells → (xs.length + ys.length) * bytes ≤ 140737488355328 →
      (∀ b, blk (a.eval X) = some b → ∃ l0 ∈ ks, ∃ ob0, hp l0 = some ob0 ∧ blk (ψ l0) = some b) → Does P o a w (OpPost P B M hp ψ w fr ⟨.own fr, ks, some (fr, .row e t (xs ++ ys))⟩) := by
    intro ks xs ys cells hsrc hown hrow hbd hks
    rcases src_ok c.hok hlh hsrc hY with ⟨cp, ev, rfl⟩ | ⟨ad, cp, news, ev, hn, hnr⟩
    · have hr := append_nilsrc (P := P) B T o.type e i t.size hu hi (a.eval X) xs.length cp cells hown
      refine does_run (hex _ _ (by rw [ev]; exact hr)) ?_
      rw [List.append_nil]
      refine c.news (u := a.eval X) rfl rfl rfl (Nat.le_refl _) (fun _ _ _ => rfl) (fun b hb => .inr (hks b hb)) (fun hl => ⟨cells, by rw [upd'_same]; exact hown, hrow.mono fun _ _ _ q => q.later hl⟩) (fun _ ob _ => by simp)
    · have hnl : news.length = ys.length * t.size := RowsBy.len (fun _ _ q => q.len) hnr
      have hml : xs.length + ys.length ≤ maxLen := by
        have : (xs.length + ys.length) * 1 ≤ (xs.length + ys.length) * bytes := Nat.mul_le_mul_left _ (by omega)
        simp [maxLen]; omega
      have hone : ∀ u ∈ news, u.oneCell' = true := by
        have key : ∀ {zs : List t.den} {cs : List Value}, RowsBy (fun x c => Rd P t w (Mu M hp ψ) x c) zs cs → ∀ u ∈ cs, u.oneCell' = true := by
          intro zs
          induction zs with
          | nil => intro cs h u hu; obtain rfl : cs = [] := h; simp at hu
          | cons z r ih =>
            rintro cs ⟨c1, c2, rfl, q1, q2⟩ u hu
            rcases List.mem_append.1 hu with hu | hu
            · exact Rd.one q1 u hu
            · exact ih q2 u hu
        exact key hnr
      obtain ⟨v', w', hr, k1, k2, k3⟩ := append_near (P := P) (w := w) B T o.type e i z t.size bytes hu hi hz' his hb hzs (by omega) (a.eval X) xs.length cells hown ad ys.length cp news hnl hn hone hml hbd c.hok.bz
      refine does_run (hex _ _ (by rw [ev]; exact hr)) ?_
      obtain ⟨A, cX, eX⟩ := ownsRow_slice hown
      obtain ⟨A', cX', eX'⟩ := ownsRow_slice k1
      refine c.news (u := v') k2.os k2.tape k2.output k2.size (fun b hb hne => k2.block b hb fun eb => ?_) (fun b hb => ?_) (fun hl => ⟨cells ++ news, by rw [upd'_same, List.length_append]; exact k1, ?_⟩) (fun _ ob _ => by simp)
      · obtain ⟨l0, q1, ob0, q2, q3⟩ := hks b (by rw [blk_own eX]; exact eb.symm)
        exact hne l0 q1 ob0 q2 q3
      · rw [blk_own eX'] at hb
        rcases k3 with k3 | ⟨g, k3, k4⟩
        · right
          exact hks b (by rw [blk_own eX, ← k3]; exact hb)
        · left
          rw [k3] at hb; injection hb with hb; subst hb
          exact ⟨k4, (ownsRow_blk k1 (by rw [blk_own eX', k3])).2⟩
      · exact (hrow.mono fun _ _ _ q => q.later hl).append (hnr.mono fun _ _ _ q => q.later hl)
  unfold appendx at h
  split at h
  · cases h
  · rename_i ys hsrc
    split at h
    · rename_i l
      split at h
      · rename_i e' t' xs0 hl
        split at h
        · rename_i ee; subst ee
          obtain ⟨xs, hxs, e1⟩ := Option.map_eq_some_iff.1 h
          simp only [Prod.mk.injEq] at e1
          obtain ⟨rfl, rfl⟩ := e1
          obtain ⟨q, q'⟩ := cast?_some hxs
          injection q with q; subst q
          simp only at q'; subst q'
          have hl' := hlh _ _ hl
          have eX := hX _ hl'
          obtain ⟨cells, hown, hrow⟩ := c.hok.ob l _ hl'
          exact main [l] xs0 ys cells hsrc (by rw [eX]; exact hown) hrow hp' (fun b hb => ⟨l, by simp, _, hl', by rw [← eX]; exact hb⟩)
        · cases h
      · cases h
    · simp only [Option.some.injEq, Prod.mk.injEq] at h
      obtain ⟨rfl, rfl⟩ := h
      have eX : a.eval X = .slice none 0 0 := hX
      have := main [] [] ys [] hsrc (by rw [eX]; exact ⟨by simp, .inl ⟨rfl, rfl⟩⟩) rfl (by simpa using hp') (fun b hb => by rw [eX] at hb; simp [blk] at hb)
      simpa using this
    · cases h

/-! Calls. -/
theorem findEnt_mem {f : FuncId} {e : Ent} (h : findEnt C f = some e) : e ∈ C ∧ e.f = f := by
  unfold findEnt at h
  exact ⟨List.mem_of_find?_eq_some h, by simpa using List.find?_some h⟩
theorem rdCap_ok (h0 : HOK P B M hp ψ w) (hlh : ∀ l ob, lh l = some ob → hp l = some ob) {ls' : List Nat} : ∀ {t : Ty} {avs : List AV} {d : t.den} {ls : List Nat}, rdCap lh t avs = some (d, ls) → (∀ l ∈ ls, l ∈ ls') → ∀ {vs : List Value}, AVRs P hp ψ w (Mu M hp ψ) avs vs → RdL P t w (Mu M (kill hp ls') ψ) d vs
  | .nil, avs, d, ls, h, hs, vs, hv => by
    cases avs with
    | nil => obtain rfl : vs = [] := hv; exact rfl
    | cons x r => simp [rdCap] at h
  | .cons x y, avs, d, ls, h, hs, vs, hv => by
    cases avs with
    | nil => simp [rdCap] at h
    | cons av r =>
      obtain ⟨v, vs', rfl, q1, q2⟩ := hv
      simp only [rdCap] at h
      split at h
      · rename_i d1 l1 h1
        split at h
        · rename_i e1 l2 h2
          simp only [Option.some.injEq, Prod.mk.injEq] at h
          obtain ⟨rfl, rfl⟩ := h
          exact ⟨v, vs', rfl, rd_ok h0 hlh h1 q1 (fun l hl => hs l (List.mem_append_left _ hl)), rdCap_ok h0 hlh h2 (fun l hl => hs l (List.mem_append_right _ hl)) q2⟩
        · cases h
      · cases h
  | .bool, _, _, _, h, _, _, _ => by simp [rdCap] at h
  | .int _, _, _, _, h, _, _, _ => by simp [rdCap] at h
  | .str, _, _, _, h, _, _, _ => by simp [rdCap] at h
  | .sl _, _, _, _, h, _, _, _ => by simp [rdCap] at h
  | .ptr _, _, _, _, h, _, _, _ => by simp [rdCap] at h
  | .st _, _, _, _, h, _, _, _ => by simp [rdCap] at h
  | .fn _ _, _, _, _, h, _, _, _ => by simp [rdCap] at h
  | .fn2 _ _ _, _, _, _, h, _, _, _ => by simp [rdCap] at h
theorem RdL.later {w1 : World} {M1 M2 : Nat → Prop} (h : Later w M1 w1 M2) : ∀ {t : Ty} {d : t.den} {vs : List Value}, RdL P t w M1 d vs → RdL P t w1 M2 d vs
  | .nil, _, _, q => q
  | .cons x y, d, _, ⟨v, r, e, q1, q2⟩ => ⟨v, r, e, q1.later h, RdL.later h q2⟩
  | .bool, _, _, q => q.elim
  | .int _, _, _, q => q.elim
  | .str, _, _, q => q.elim
  | .sl _, _, _, q => q.elim
  | .ptr _, _, _, q => q.elim
  | .st _, _, _, q => q.elim
  | .fn _ _, _, _, q => q.elim
  | .fn2 _ _ _, _, _, q => q.elim
theorem shape_fn {a r : Ty} {f : Fn} {x y : Array Value} : (Ty.fn a r).shape (.func f x y) := by unfold Ty.shape Ty.isSt; simp
theorem shape_fn2 {a b r : Ty} {f : Fn} {x y : Array Value} : (Ty.fn2 a b r).shape (.func f x y) := by unfold Ty.shape Ty.isSt; simp
theorem rdClo_ok (hC : ∀ e ∈ C, Con P e) (h0 : HOK P B M hp ψ w) (hlh : ∀ l ob, lh l = some ob → hp l = some ob) {ls' : List Nat} {t : Ty} {f : FuncId} {cap : List AV} {p : Prop} {d : t.den} {ls : List Nat} (h : rdClo C lh t f cap = some (p, d, ls)) (hp' : p) (hs : ∀ l ∈ ls, l ∈ ls') {v : Value}
    (hv : AVR P hp ψ w (Mu M hp ψ) (.clo f cap) v) : RdV P t w (Mu M (kill hp ls') ψ) d v := by
  obtain ⟨us, rfl, q⟩ := hv
  unfold rdClo at h
  split at h
  · rename_i g x y z r pre F he
    obtain ⟨hm, hf⟩ := findEnt_mem he
    simp only at hf; subst hf
    obtain ⟨hfo, hcon⟩ := hC _ hm
    simp only at hfo hcon
    split at h
    · rename_i ds l1 h1
      obtain ⟨G, hG, e⟩ := Option.map_eq_some_iff.1 h
      simp only [Prod.mk.injEq] at e
      obtain ⟨rfl, rfl, rfl⟩ := e
      refine cast?_rdv hG ⟨shape_fn, g, us, rfl, hfo, fun w1 M1 hl s u hsh hu => ?_⟩
      have hcap := (rdCap_ok h0 hlh h1 hs q).later hl
      have hc := hcon (s, ds) (hp' s) w1 M1 (u :: us.toList) hl.bound ⟨u, us.toList, rfl, ⟨hsh, hu⟩, hcap⟩
      rw [show (u :: us.toList).toArray = #[u] ++ us by apply Array.ext'; simp] at hc
      refine Calls.mono hc ?_
      rintro en w2 ⟨v', rfl, hb, hr⟩
      exact ⟨v', rfl, hr.1, hr.2, hb⟩
    · split at h
      · rename_i ds l1 h1
        obtain ⟨G, hG, e⟩ := Option.map_eq_some_iff.1 h
        simp only [Prod.mk.injEq] at e
        obtain ⟨rfl, rfl, rfl⟩ := e
        refine cast?_rdv hG ⟨shape_fn2, g, us, rfl, hfo, fun w1 M1 hl s u s' u' hsh hu hsh' hu' => ?_⟩
        have hcap := (rdCap_ok h0 hlh h1 hs q).later hl
        have hc := hcon (s, s', ds) (hp' s s') w1 M1 (u :: u' :: us.toList) hl.bound ⟨u, u' :: us.toList, rfl, ⟨hsh, hu⟩, u', us.toList, rfl, ⟨hsh', hu'⟩, hcap⟩
        rw [show (u :: u' :: us.toList).toArray = #[u, u'] ++ us by apply Array.ext'; simp] at hc
        refine Calls.mono hc ?_
        rintro en w2 ⟨v', rfl, hb, hr⟩
        exact ⟨v', rfl, hr.1, hr.2, hb⟩
      · cases h
  · rename_i g x r pre F he
    obtain ⟨hm, hf⟩ := findEnt_mem he
    simp only at hf; subst hf
    obtain ⟨hfo, hcon⟩ := hC _ hm
    simp only at hfo hcon
    split at h
    · obtain ⟨G, hG, e⟩ := Option.map_eq_some_iff.1 h
      simp only [Prod.mk.injEq] at e
      obtain ⟨rfl, rfl, rfl⟩ := e
      have hus : us.toList = [] := q
      refine cast?_rdv hG ⟨shape_fn, g, us, rfl, hfo, fun w1 M1 hl s u hsh hu => ?_⟩
      have hc := hcon (s, ()) (hp' s) w1 M1 [u] hl.bound ⟨u, [], rfl, ⟨hsh, hu⟩, rfl⟩
      rw [show [u].toArray = #[u] ++ us by apply Array.ext'; simp [hus]] at hc
      refine Calls.mono hc ?_
      rintro en w2 ⟨v', rfl, hb, hr⟩
      exact ⟨v', rfl, hr.1, hr.2, hb⟩
    · cases h
  · cases h
theorem rdA_ok (hC : ∀ e ∈ C, Con P e) (h0 : HOK P B M hp ψ w) (hlh : ∀ l ob, lh l = some ob → hp l = some ob) {ls' : List Nat} {t : Ty} {av : AV} {p : Prop} {d : t.den} {ls : List Nat} (h : rdA C lh t av = some (p, d, ls)) (hp' : p) (hs : ∀ l ∈ ls, l ∈ ls') {v : Value}
    (hv : AVR P hp ψ w (Mu M hp ψ) av v) : RdV P t w (Mu M (kill hp ls') ψ) d v := by
  unfold rdA at h
  split at h
  · exact rdClo_ok hC h0 hlh h hp' hs hv
  · obtain ⟨x, hx, e⟩ := Option.map_eq_some_iff.1 h
    simp only [Prod.mk.injEq] at e
    obtain ⟨_, rfl, rfl⟩ := e
    exact rd_ok h0 hlh hx hv hs
theorem rdL_ok (hC : ∀ e ∈ C, Con P e) (h0 : HOK P B M hp ψ w) (hlh : ∀ l ob, lh l = some ob → hp l = some ob) {ls' : List Nat} : ∀ {t : Ty} {avs : List AV} {p : Prop} {d : t.den} {ls : List Nat}, rdL C lh t avs = some (p, d, ls) → p → (∀ l ∈ ls, l ∈ ls') → ∀ {vs : List Value}, AVRs P hp ψ w (Mu M hp ψ) avs vs → RdL P t w (Mu M (kill hp ls') ψ) d vs
  | .nil, avs, p, d, ls, h, hp', hs, vs, hv => by
    cases avs with
    | nil => obtain rfl : vs = [] := hv; exact rfl
    | cons x r => simp [rdL] at h
  | .cons x y, avs, p, d, ls, h, hp', hs, vs, hv => by
    cases avs with
    | nil => simp [rdL] at h
    | cons av r =>
      obtain ⟨v, vs', rfl, q1, q2⟩ := hv
      simp only [rdL] at h
      split at h
      · rename_i p1 d1 l1 h1
        split at h
        · rename_i p2 e1 l2 h2
          simp only [Option.some.injEq, Prod.mk.injEq] at h
          obtain ⟨rfl, rfl, rfl⟩ := h
          exact ⟨v, vs', rfl, rdA_ok hC h0 hlh h1 hp'.1 (fun l hl => hs l (List.mem_append_left _ hl)) q1, rdL_ok hC h0 hlh h2 hp'.2 (fun l hl => hs l (List.mem_append_right _ hl)) q2⟩
        · cases h
      · cases h
  | .bool, _, _, _, _, h, _, _, _, _ => by simp [rdL] at h
  | .int _, _, _, _, _, h, _, _, _, _ => by simp [rdL] at h
  | .str, _, _, _, _, h, _, _, _, _ => by simp [rdL] at h
  | .sl _, _, _, _, _, h, _, _, _, _ => by simp [rdL] at h
  | .ptr _, _, _, _, _, h, _, _, _, _ => by simp [rdL] at h
  | .st _, _, _, _, _, h, _, _, _, _ => by simp [rdL] at h
  | .fn _ _, _, _, _, _, h, _, _, _, _ => by simp [rdL] at h
  | .fn2 _ _ _, _, _, _, _, h, _, _, _, _ => by simp [rdL] at h
/-- Data without references read the same whatever may turn. -/
theorem scalar_rd {w1 : World} {M1 M2 : Nat → Prop} : ∀ {t : Ty} {d : t.den} {cs : List Value}, t.scalar = true → Rd P t w M1 d cs → Rd P t w1 M2 d cs
  | .bool, _, _, _, q => q
  | .int _, _, _, _, q => q
  | .str, _, _, _, q => q
  | .nil, _, _, _, q => q
  | .st t, _, _, h, q => scalar_rd (t := t) h q
  | .cons x y, _, _, h, ⟨c1, c2, e, q1, q2⟩ => by
    simp only [Ty.scalar, Bool.and_eq_true] at h
    exact ⟨c1, c2, e, scalar_rd h.1 q1, scalar_rd h.2 q2⟩
  | .sl _, _, _, h, _ => by simp [Ty.scalar] at h
  | .ptr _, _, _, h, _ => by simp [Ty.scalar] at h
  | .fn _ _, _, _, h, _ => by simp [Ty.scalar] at h
  | .fn2 _ _ _, _, _, h, _ => by simp [Ty.scalar] at h
theorem scalar_rdl {w1 : World} {M1 M2 : Nat → Prop} : ∀ {t : Ty} {d : t.den} {vs : List Value}, t.scalar = true → RdL P t w M1 d vs → RdL P t w1 M2 d vs
  | .nil, _, _, _, q => q
  | .cons x y, _, _, h, ⟨v, r, e, q1, q2⟩ => by
    simp only [Ty.scalar, Bool.and_eq_true] at h
    exact ⟨v, r, e, ⟨q1.1, scalar_rd h.1 q1.2⟩, scalar_rdl h.2 q2⟩
  | .bool, _, _, _, q => q.elim
  | .int _, _, _, _, q => q.elim
  | .str, _, _, _, q => q.elim
  | .sl _, _, _, _, q => q.elim
  | .ptr _, _, _, _, q => q.elim
  | .st _, _, _, _, q => q.elim
  | .fn _ _, _, _, _, q => q.elim
  | .fn2 _ _ _, _, _, _, q => q.elim
theorem resAVs_ok {hp : Hp} {M' : Nat → Prop} : ∀ {t : Ty} {d : t.den} {vs : List Value}, RdL P t w M' d vs → AVRs P hp ψ w M' (resAVs t d) vs
  | .nil, _, _, q => q
  | .cons x y, _, _, ⟨v, r, e, q1, q2⟩ => ⟨v, r, e, q1, resAVs_ok q2⟩
  | .bool, _, _, q => q.elim
  | .int _, _, _, q => q.elim
  | .str, _, _, q => q.elim
  | .sl _, _, _, q => q.elim
  | .ptr _, _, _, q => q.elim
  | .st _, _, _, q => q.elim
  | .fn _ _, _, _, q => q.elim
  | .fn2 _ _ _, _, _, q => q.elim
theorem kill_bound (h0 : HOK P B M hp ψ w) (ls : List Nat) : ∀ b, Mu M (kill hp ls) ψ b → b < w.heap.size := fun b q => h0.mu b (kill_mu b q)
theorem rows_scalar {w1 : World} {M1 M2 : Nat → Prop} {t : Ty} (h : t.scalar = true) {xs : List t.den} {cs : List Value} (q : RowsBy (fun x c => Rd P t w M1 x c) xs cs) : RowsBy (fun x c => Rd P t w1 M2 x c) xs cs := q.mono fun _ _ _ q => scalar_rd h q
theorem fresh_ok {r : Ty} {res : r.den} {e : TypeId} {ls : List Nat} {e1 : Eff} {v : Value} (he1 : freshEff fr e ls r res = some e1) (hb : Below w.heap.size w w') (hres : Fresh P w.heap.size w' (Mu M (kill hp ls) ψ) e r res v) (c : Ctx P B M hp ψ w fr) : OpPost P B M hp ψ w fr e1 v w' := by
  cases r with
  | sl t =>
    simp only [freshEff, Option.some.injEq] at he1
    subst he1
    obtain ⟨cells, hown, hrow⟩ := hres
    by_cases hs : t.scalar = true
    · rw [if_pos hs]
      exact new_row c hb hown fun _ => rows_scalar hs hrow
    · rw [if_neg hs]
      refine new_row c hb hown fun hl => hrow.mono fun x _ cc q => q.later ⟨Nat.le_refl _, fun _ _ _ => rfl, fun b _ q => ?_, hl.bound⟩
      rcases q with q | ⟨l, ob, q1, q2⟩
      · exact .inl (.inl q)
      · by_cases el : l = fr
        · subst el; rw [upd'_same] at q2; exact .inr q2
        · rw [putHp_other _ _ el] at q1; rw [upd'_other _ _ el] at q2
          exact .inl (.inr ⟨l, ob, q1, q2⟩)
  | _ => simp [freshEff] at he1
theorem call_ok (hC : ∀ e ∈ C, Con P e) (hlh : ∀ l ob, lh l = some ob → hp l = some ob) {f : FuncId} {avs : List AV} {vs : List Value} {p : Prop} {eff : Eff} (hv : AVRs P hp ψ w (Mu M hp ψ) avs vs) (h : callx C lh fr f avs = some (p, eff)) (hp' : p) (c : Ctx P B M hp ψ w fr) :
    funcOk P f = true ∧ Calls P f vs.toArray w fun e w' => ∃ v, e = .returned v ∧ OpPost P B M hp ψ w fr eff v w' := by
  unfold callx at h
  split at h
  · cases h
  · rename_i ent he
    obtain ⟨hm, rfl⟩ := findEnt_mem he
    obtain ⟨hfo, hcon⟩ := hC _ hm
    refine ⟨hfo, ?_⟩
    split at h
    · cases h
    · rename_i p1 d ls h1
      have run : p1 → ent.pre d → Calls P ent.f vs.toArray w fun en w' => ∃ v, en = .returned v ∧ Below w.heap.size w w' ∧ (match ent.fresh with
          | some t => Fresh P w.heap.size w' (Mu M (kill hp ls) ψ) t ent.r (ent.F d) v
          | none => RdRes P ent.many ent.r w' (Mu M (kill hp ls) ψ) (ent.F d) v) := fun q1 q2 =>
        hcon d q2 w (Mu M (kill hp ls) ψ) vs (kill_bound c.hok ls) (rdL_ok hC c.hok hlh h1 q1 (fun _ h => h) hv)
      cases hf : ent.fresh with
      | none =>
        rw [hf] at h
        simp only [Option.some.injEq, Prod.mk.injEq] at h
        obtain ⟨rfl, rfl⟩ := h
        have hr := run hp'.1 hp'.2
        simp only [hf] at hr
        refine Calls.mono hr ?_
        rintro en w' ⟨v, rfl, hb, hres⟩
        refine ⟨v, rfl, ?_⟩
        have hav : ∀ hp0 M0, (ent.r.scalar = true ∨ M0 = Mu M (kill hp ls) ψ) → AVR P hp0 ψ w' M0 (if ent.many then .tup (resAVs ent.r (ent.F d)) else .val ent.r (ent.F d)) v := by
          intro hp0 M0 hM
          unfold RdRes at hres
          by_cases hmany : ent.many = true
          · rw [if_pos hmany] at hres
            rw [if_pos hmany]
            obtain ⟨us, rfl, q⟩ := hres
            refine ⟨us, rfl, resAVs_ok ?_⟩
            rcases hM with hM | rfl
            · exact scalar_rdl hM q
            · exact q
          · rw [if_neg hmany] at hres
            rw [if_neg hmany]
            rcases hM with hM | rfl
            · exact ⟨hres.1, scalar_rd hM hres.2⟩
            · exact hres
        by_cases hs : ent.r.scalar = true
        · rw [if_pos hs]
          exact c.quiet hb (hav _ _ (.inl hs))
        · rw [if_neg hs]
          exact c.kills hb (hav _ _ (.inr rfl))
      | some t =>
        rw [hf] at h
        simp only at h
        obtain ⟨e1, he1, e2⟩ := Option.map_eq_some_iff.1 h
        simp only [Prod.mk.injEq] at e2
        obtain ⟨rfl, rfl⟩ := e2
        have hr := run hp'.1 hp'.2
        simp only [hf] at hr
        refine Calls.mono hr ?_
        rintro en w' ⟨v, rfl, hb, hres⟩
        exact ⟨v, rfl, fresh_ok he1 hb hres c⟩
end
end T
end Go.Proofs.Ytcjgofcfinbpeaa
