/- LabelSpan, by the typed walk. -/
import Derived.Test.YtcjgofcfinbpeaaL13
namespace Go.Proofs.Ytcjgofcfinbpeaa
set_option linter.unusedVariables false
set_option linter.unusedSimpArgs false
open Go.RowKit Go.IntWalk
theorem pass_lh {a : Arc} (hr : a.right) {t : Int} (ht : t ≤ 1048576) : a.pass false t ≤ a.pass true t :=
  pass_le (fun u => by
    obtain ⟨_, _, _, _, ho⟩ := hr
    exact (ho (hour u) (hour_lt u)).2.1) ht
theorem okWay_iff {A : List (Int × Int × List Int × List Int)} {way : List Int} : ∀ {n : Nat}, okWay A way n = true ↔ ∀ j, j < n → (0 ≤ way.getD j 0 ∧ way.getD j 0 < A.length) ∧ (j = 0 ∨ (A.getD (way.getD (j - 1) 0).toNat (0, 0, [], [])).2.1 = (A.getD (way.getD j 0).toNat (0, 0, [], [])).1)
  | 0 => ⟨fun _ j hj => absurd hj (Nat.not_lt_zero _), fun _ => rfl⟩
  | n + 1 => by
    simp only [okWay, Bool.and_eq_true, Bool.or_eq_true, decide_eq_true_eq]
    rw [okWay_iff (n := n)]
    constructor
    · rintro ⟨h, h1, h2, h3⟩ j hj
      by_cases c : j = n
      · subst c; exact ⟨⟨h1, h2⟩, h3⟩
      · exact h j (by omega)
    · intro h
      exact ⟨fun j hj => h j (by omega), (h n (by omega)).1.1, (h n (by omega)).1.2, (h n (by omega)).2⟩
/-- The time behind k arcs of a way, at one bound. -/
def runW (A : List (Int × Int × List Int × List Int)) (way : List Int) (hi : Bool) (s : Int) : Nat → Int
  | 0 => s
  | k + 1 => (T.toArc (A.getD (way.getD k 0).toNat (0, 0, [], []))).passF hi (runW A way hi s k)
section
variable {A : List (Int × Int × List Int × List Int)} {way : List Int}
theorem goWay_iff {s : Int} {p : Int × Int} : ∀ {k : Nat}, goWay A way s k = some p ↔ p = (runW A way false s k, runW A way true s k) ∧ ∀ j, j < k → runW A way true s (j + 1) ≤ 1048576
  | 0 => by
    simp only [goWay, runW, Option.some.injEq]
    exact ⟨fun h => ⟨h.symm, fun j hj => absurd hj (Nat.not_lt_zero _)⟩, fun h => h.1.symm⟩
  | k + 1 => by
    simp only [goWay]
    constructor
    · intro h
      cases hg : goWay A way s k with
      | none => rw [hg] at h; cases h
      | some q =>
        obtain ⟨h1, h2⟩ := goWay_iff.1 hg
        subst h1
        rw [hg] at h
        dsimp only at h
        split at h
        · cases h
        · rename_i c
          injection h with h
          refine ⟨h.symm, fun j hj => ?_⟩
          by_cases e : j = k
          · subst e; exact Int.not_lt.1 c
          · exact h2 j (by omega)
    · rintro ⟨h1, h2⟩
      rw [goWay_iff.2 ⟨rfl, fun j hj => h2 j (by omega)⟩]
      dsimp only
      rw [if_neg (show ¬ (T.toArc (A.getD (way.getD k 0).toNat (0, 0, [], []))).passF true (runW A way true s k) > 1048576 from Int.not_lt.2 (h2 k (by omega))), h1]
      rfl
theorem getD_drop' {α : Type} (l : List α) (k j : Nat) (d : α) : (l.drop k).getD j d = l.getD (k + j) d := by
  rw [List.getD_eq_getElem?_getD, List.getD_eq_getElem?_getD, List.getElem?_drop]
theorem getD_take' {α : Type} (l : List α) {k j : Nat} (h : j < k) (d : α) : (l.take k).getD j d = l.getD j d := by
  rw [List.getD_eq_getElem?_getD, List.getD_eq_getElem?_getD, List.getElem?_take, if_pos h]
theorem runW_drop {hi : Bool} {s : Int} {k : Nat} : ∀ {m : Nat}, runW A (way.drop k) hi (runW A way hi s k) m = runW A way hi s (k + m)
  | 0 => rfl
  | m + 1 => by
    rw [runW, runW_drop, getD_drop']; rfl
theorem runW_take {hi : Bool} {s : Int} {k : Nat} : ∀ {m : Nat}, m ≤ k → runW A (way.take k) hi s m = runW A way hi s m
  | 0, _ => rfl
  | m + 1, h => by
    rw [runW, runW, runW_take (by omega), getD_take' _ (by omega)]
theorem okWay_take {k : Nat} (h : okWay A way way.length = true) : okWay A (way.take k) (way.take k).length = true := by
  rw [okWay_iff] at h ⊢
  intro j hj
  rw [List.length_take] at hj
  have := h j (by omega)
  rw [getD_take' _ (by omega), getD_take' _ (by omega)]
  exact this
theorem okWay_drop {k : Nat} (h : okWay A way way.length = true) : okWay A (way.drop k) (way.drop k).length = true := by
  rw [okWay_iff] at h ⊢
  intro j hj
  rw [List.length_drop] at hj
  have := h (k + j) (by omega)
  rw [getD_drop', getD_drop']
  refine ⟨this.1, ?_⟩
  rcases Nat.eq_zero_or_pos j with c | c
  · exact .inl c
  · rw [show k + (j - 1) = k + j - 1 by omega]
    exact .inr (this.2.resolve_left (by omega))
/-- Who begins later, and at the high bound, is not earlier. -/
theorem runW_mono (hA : ∀ a ∈ A, (T.toArc a).right) {hi hi2 : Bool} (hh : hi = true → hi2 = true) {s s2 : Int} (h0 : 0 ≤ s) (hs : s ≤ s2) (hM : s2 ≤ 1048576) : ∀ {k : Nat}, (∀ j, j < k → 0 ≤ way.getD j 0 ∧ way.getD j 0 < A.length) → (∀ j, j < k → runW A way true s2 (j + 1) ≤ 1048576) →
    s ≤ runW A way hi s k ∧ runW A way hi s k ≤ runW A way hi2 s2 k ∧ runW A way hi2 s2 k ≤ runW A way true s2 k ∧ runW A way true s2 k ≤ 1048576
  | 0, _, _ => ⟨Int.le_refl _, hs, Int.le_refl _, hM⟩
  | k + 1, hw, h => by
    obtain ⟨i1, i2, i3, i4⟩ := runW_mono hA hh h0 hs hM (k := k) (fun j hj => hw j (by omega)) (fun j hj => h j (by omega))
    have hr : (T.toArc (A.getD (way.getD k 0).toNat (0, 0, [], []))).right := hA _ (getD_mem (by have := hw k (by omega); omega))
    have hk := h k (by omega)
    rw [runW] at hk
    rw [runW, runW, runW]
    generalize T.toArc (A.getD (way.getD k 0).toNat (0, 0, [], [])) = a at hr hk ⊢
    generalize runW A way hi s k = x at i1 i2 ⊢
    generalize runW A way hi2 s2 k = y at i2 i3 ⊢
    generalize runW A way true s2 k = z at i3 i4 hk ⊢
    rw [Arc.passF_yes _ hr ⟨by omega, by omega⟩, Arc.passF_yes _ hr ⟨by omega, by omega⟩, Arc.passF_yes _ hr ⟨by omega, by omega⟩]
    rw [Arc.passF_yes _ hr ⟨by omega, by omega⟩] at hk
    have m1 := (a.pass_bd hr hi (t := x) (by omega)).1
    have m2 : a.pass hi x ≤ a.pass hi2 x := by
      cases hi with
      | true => rw [hh rfl]; exact Int.le_refl _
      | false => cases hi2 with
        | false => exact Int.le_refl _
        | true => exact pass_lh hr (by omega)
    have m3 := Arc.pass_mono (a := a) hi2 i2 (by omega)
    have m4 : a.pass hi2 y ≤ a.pass true y := by
      cases hi2 with
      | true => exact Int.le_refl _
      | false => exact pass_lh hr (by omega)
    have m5 := Arc.pass_mono (a := a) true i3 (by omega)
    omega
theorem spanF_iff {s l h : Int} : spanF A way s = (l, h, 0, ()) ↔ (A.length ≤ 20000 ∧ way.length ≤ 2000 ∧ timeB s = true ∧ (A.any fun a => !(T.toArc a).rightB) = false ∧ okWay A way way.length = true) ∧ goWay A way s way.length = some (l, h) := by
  unfold spanF
  by_cases c : 20000 < A.length ∨ 2000 < way.length ∨ ¬ timeB s = true ∨ (A.any fun a => !(T.toArc a).rightB) = true ∨ okWay A way way.length = false
  · rw [if_pos c]
    constructor
    · intro q
      simp at q
    · rintro ⟨⟨h1, h2, h3, h4, h5⟩, _⟩
      rcases c with c | c | c | c | c
      · omega
      · omega
      · exact absurd h3 c
      · rw [h4] at c; cases c
      · rw [h5] at c; cases c
  · rw [if_neg c]
    have c' : A.length ≤ 20000 ∧ way.length ≤ 2000 ∧ timeB s = true ∧ (A.any fun a => !(T.toArc a).rightB) = false ∧ okWay A way way.length = true := by
      simp only [not_or] at c
      exact ⟨by omega, by omega, Classical.not_not.1 c.2.2.1, by simpa using c.2.2.2.1, by simpa using c.2.2.2.2⟩
    cases hg : goWay A way s way.length with
    | none => simp
    | some p =>
      obtain ⟨x, y⟩ := p
      exact ⟨fun q => ⟨c', by injection q with q1 q2; injection q2 with q2 _; rw [q1, q2]⟩, fun q => by injection q.2 with q; injection q with q1 q2; rw [q1, q2]⟩
theorem spanF_or (A : List (Int × Int × List Int × List Int)) (way : List Int) (s : Int) : (∃ l h, spanF A way s = (l, h, 0, ())) ∨ ((spanF A way s).1 = 0 ∧ (spanF A way s).2.1 = 0 ∧ (spanF A way s).2.2.1 ≠ 0) := by
  unfold spanF
  split
  · exact .inr ⟨rfl, rfl, by decide⟩
  · split
    · exact .inr ⟨rfl, rfl, by decide⟩
    · exact .inl ⟨_, _, rfl⟩
theorem any_right {A : List (Int × Int × List Int × List Int)} (h : (A.any fun a => !(T.toArc a).rightB) = false) : ∀ a ∈ A, (T.toArc a).right := fun a ha => by
  rw [List.any_eq_false] at h
  have := h a ha
  simp only [Bool.not_eq_true', Bool.not_eq_false] at this
  exact of_decide_eq_true this
/-- A way in two parts. -/
theorem span_law {s l h : Int} (e : spanF A way s = (l, h, 0, ())) (k : Nat) (hk : k ≤ way.length) :
    ∃ a b, spanF A (way.take k) s = (a, b, 0, ()) ∧ (∃ y, spanF A (way.drop k) a = (l, y, 0, ())) ∧ (∃ x, spanF A (way.drop k) b = (x, h, 0, ())) ∧ l ≤ h ∧ s ≤ l := by
  obtain ⟨⟨h1, h2, h3, h4, h5⟩, hg⟩ := spanF_iff.1 e
  obtain ⟨q, hj⟩ := goWay_iff.1 hg
  simp only [Prod.mk.injEq] at q
  obtain ⟨rfl, rfl⟩ := q
  have hs : isTime s := of_decide_eq_true h3
  have hs0 : 0 ≤ s := hs.1
  have hA := any_right h4
  have hin : ∀ j, j < way.length → 0 ≤ way.getD j 0 ∧ way.getD j 0 < A.length := fun j hj => (okWay_iff.1 h5 j hj).1
  have mk := fun (hi hi2 : Bool) (hh : hi = true → hi2 = true) (k : Nat) (hk : k ≤ way.length) => runW_mono hA hh hs.1 (Int.le_refl s) hs.2 (k := k) (fun j q => hin j (by omega)) (fun j q => hj j (by omega))
  have ml := mk false true (fun q => by cases q) k hk
  have me := mk false true (fun q => by cases q) way.length (Nat.le_refl _)
  have lt : (way.take k).length = k := by rw [List.length_take]; omega
  have ld : (way.drop k).length = way.length - k := List.length_drop
  have ll : k + (way.length - k) = way.length := by omega
  have tl : timeB (runW A way false s k) = true := decide_eq_true ⟨by omega, by omega⟩
  have th : timeB (runW A way true s k) = true := decide_eq_true ⟨by omega, by omega⟩
  refine ⟨runW A way false s k, runW A way true s k, ?_, ⟨runW A (way.drop k) true (runW A way false s k) (way.length - k), ?_⟩, ⟨runW A (way.drop k) false (runW A way true s k) (way.length - k), ?_⟩, me.2.1, me.1⟩
  · refine spanF_iff.2 ⟨⟨h1, by omega, h3, h4, okWay_take h5⟩, ?_⟩
    rw [lt]
    refine goWay_iff.2 ⟨by rw [runW_take (Nat.le_refl _), runW_take (Nat.le_refl _)], fun j q => ?_⟩
    rw [runW_take (by omega)]; exact hj j (by omega)
  · refine spanF_iff.2 ⟨⟨h1, by omega, tl, h4, okWay_drop h5⟩, ?_⟩
    rw [ld]
    refine goWay_iff.2 ⟨by rw [runW_drop, ll], fun j q => ?_⟩
    have := (runW_mono (way := way.drop k) hA (hi := true) (hi2 := true) (fun q => q) (s := runW A way false s k) (s2 := runW A way true s k) (by omega) (by omega) (by omega) (k := j + 1)
      (fun i hi => by rw [getD_drop']; exact hin _ (by omega)) (fun i hi => by rw [runW_drop]; exact hj (k + i) (by omega))).2.1
    rw [runW_drop (hi := true)] at this
    have q2 : runW A way true s (k + (j + 1)) ≤ 1048576 := hj (k + j) (by omega)
    omega
  · refine spanF_iff.2 ⟨⟨h1, by omega, th, h4, okWay_drop h5⟩, ?_⟩
    rw [ld]
    refine goWay_iff.2 ⟨by rw [runW_drop, ll], fun j q => ?_⟩
    rw [runW_drop]; exact hj (k + j) (by omega)
/-- Who begins later does not arrive earlier. -/
theorem span_later {s s2 l h x y : Int} (hs : s ≤ s2) (e : spanF A way s = (l, h, 0, ())) (e2 : spanF A way s2 = (x, y, 0, ())) : l ≤ x ∧ h ≤ y := by
  obtain ⟨⟨h1, h2, h3, h4, h5⟩, hg⟩ := spanF_iff.1 e
  obtain ⟨q, hj⟩ := goWay_iff.1 hg
  simp only [Prod.mk.injEq] at q
  obtain ⟨rfl, rfl⟩ := q
  obtain ⟨⟨_, _, g3, _, _⟩, hg2⟩ := spanF_iff.1 e2
  obtain ⟨q, hj2⟩ := goWay_iff.1 hg2
  simp only [Prod.mk.injEq] at q
  obtain ⟨rfl, rfl⟩ := q
  have t1 : isTime s := of_decide_eq_true h3
  have t2 : isTime s2 := of_decide_eq_true g3
  have hA := any_right h4
  have hin : ∀ j, j < way.length → 0 ≤ way.getD j 0 ∧ way.getD j 0 < A.length := fun j hj => (okWay_iff.1 h5 j hj).1
  exact ⟨(runW_mono hA (hi := false) (hi2 := false) (fun q => q) t1.1 hs t2.2 hin hj2).2.1, (runW_mono hA (hi := true) (hi2 := true) (fun q => q) t1.1 hs t2.2 hin hj2).2.1⟩
end
namespace T
def entSpan12 : Ent := ⟨4, .cons (.sl (.st (.cons (.int .i64) (.cons (.int .i64) (.cons (.sl (.int .i64)) (.sl (.int .i64))))))) (.cons (.sl (.int .i64)) (.cons (.int .i64) (.cons (.int .u8) (.cons (.int .u8) .nil)))), .bool, false, none, fun _ => True, fun _ => true⟩
def csLSp : List Ent := [entSmall12, entFew12, entSpan] theorem hcsLSp (f : FuncId) : findEnt csLSp f = findEnt [entSmall12, entFew12, entSpan] f := rfl
theorem conSpan12 : Con Try.prog entSpan12 := by
  refine con_is (C := csLSp) x4 (by kernel_rfl) (by simp [csLSp, conSmall12, conFew12, conSpan]) fun x hr hf => ?_
  obtain ⟨(A : List DArc), (way : List Int), (start : Int), (cut : Int), (later : Int), _⟩ := x
  dsimp only [entSpan12, x4]; simp only [↓hcsLSp, entSmall12, entFew12, entSpan, nilOf, ↓xwp_top, slicey, oslx, copyx, srcx, ↓xwp_dead, ↓xwp_rfor, ↓xwp_yld, ↓rndA_n, ↓rndB_n, rndA_x, rndB_x, rndA_r, rndB_r, ↓backR_n, ↓backR_r, backR_e, ↓hasLp_mk, setLp, entY, entR, ylOf, List.zip_cons_cons, List.zip_nil_left, List.zip_nil_right, mapOf, keyOf', ↓leQ_mk, ↓xwp_icall, ↓backQ_n, ↓backQ_r, ↓backQ_e, afterI, entI, exI, oneAV, keepI, XO.reads, XA.slot, eqsx, eqd,  List.drop_zero, List.take_length, Int.toNat_zero, Int.toNat_natCast, List.set_cons_zero, List.set_cons_succ, ↓xwp_clean, tmG, cleanS, headT, numb, rensT, tmle, fastD, runR_true, runR_false, quiet, Eff.tch, ↓xwp_seq, ↓xwp_skip, ↓xwp_ret, ↓xwp_exit, ↓xwp_block, ↓xwp_loop, ↓xwp_reg, ↓xwp_cond, ↓thn_n, ↓thn_e, ↓thn_r, ↓XQ.seq, ↓XQ.blk, List.getElem?_cons_succ, List.getElem?_cons_zero, List.getElem?_nil, runT, stepT, gop, gcond, opg, pickx, boolOf, XOp.isPick, opx, stripL, strip, pur, XO.gv, XA.av, setT, appL, killL, effOk, ltAll, AV.locs, AV.locsL, OB.locs, look, enter, resAVs, binx, intBin, eqx, lenx, condOf, loadx, partOf, storex, splice, cellsOf, scatter, zeroAV, fieldx, faddrx, iaddrx, bounds, avInt, avIntK, avBool, extx, slicex, fillx, rowx, callx, callvx, fn1x, fn2x, findEnt, rdL, rdA, rdClo, rdCap, rd, rd1, rdAgg, rdPtr, rdc, rd1c, ofCst, proj, upd, appendx, srcx, freshEff, minx, Ty.isSt, Ty.size, Ty.scalar, Ty.dflt, cast?_self, List.map_cons, List.map_nil, List.getD_cons_zero, List.getD_cons_succ, List.length_cons, List.length_nil, List.cons_append, List.nil_append, List.append_nil, List.filter_cons, List.filter_nil, List.isEmpty_nil, List.isEmpty_cons, Option.map_some, Option.map_none, Option.bind_some, Option.isNone_none, Option.isNone_some, Bool.false_eq_true, if_true, if_false, ite_true, ite_false, Bool.and_true, Bool.true_and, Bool.and_false, Bool.false_and, and_true, true_and, and_self, not_true_eq_false, not_false_eq_true, imp_self, forall_const, true_imp_iff, implies_true, decide_true, decide_false, cond_true, cond_false, reduceCtorEq, List.find?_cons, List.find?_nil, beq_self_eq_true, List.drop_zero, List.take_zero, List.drop_succ_cons, List.take_succ_cons, Nat.reduceAdd, Nat.reduceSub, Nat.reduceMul, Nat.reduceLT, Nat.reduceLeDiff, Nat.reduceEqDiff, Nat.reduceBEq, Nat.reduceBNe, List.reduceReplicate, reduceIte, retQ, finish, resAll, resAV, freshIs, stepD, runD, okD, meet, reach, reachO, restr, inAll, effIn, headOf, puts, put1, keep, le', autoρ, tidy, renB, rens, ren1, asle, avles, avle, hple, oble, uniq, sub, locOk, assoc, disj, List.all_cons, List.all_nil, List.any_cons, List.any_nil, List.contains_nil, List.contains_cons, List.flatMap_cons, List.flatMap_nil, List.mem_cons, List.not_mem_nil, or_false, false_or, or_true, true_or, or_self, Bool.or_false, Bool.or_true, Bool.true_or, Bool.false_or, Bool.not_true, Bool.not_false, List.take_nil, List.drop_nil, eq_self, Option.some.injEq, false_and, and_false, ↓reduceIte]
  try simp only [reduceCtorEq, if_true, if_false, decide_true, decide_false, Bool.false_eq_true, true_imp_iff, not_true_eq_false, not_false_eq_true, false_imp_iff, and_false, false_and, or_false, false_or, eqf, eqt, bif_and, bif_or, Bool.not_not, Bool.not_eq_true', Bool.not_eq_false', Bool.or_eq_true, Bool.or_eq_false_iff, Bool.and_eq_true, Bool.and_eq_false_imp, decide_eq_true_eq, decide_eq_false_iff_not, bne_iff_ne, bne_eq_false_iff_eq, beq_iff_eq, beq_eq_false_iff_ne, ne_eq, Int.toNat_natCast, Int.not_lt, Int.not_le, ge_iff_le, gt_iff_lt, Int.natCast_nonneg, Int.ofNat_lt, imp_self, and_true, true_and, implies_true, Int.ofNat_inj, and_self, Classical.not_not]
  intro hfew
  have hcut : 0 ≤ cut ∧ cut ≤ 255 := hf.2.2.2.1
  have hlat : 0 ≤ later ∧ later ≤ 255 := hf.2.2.2.2.1
  obtain ⟨k, hk, hkl⟩ : ∃ k : Nat, (IntKind.i64.wrap cut).tmod (IntKind.i64.wrap ((way.length : Int) + 1)) = (k : Int) ∧ k ≤ way.length := by
    have h1 : (0 : Int) < (way.length : Int) + 1 := by omega
    rw [i64_in _ (by omega), i64_in _ (by omega), Int.tmod_eq_emod_of_nonneg hcut.1]
    have h2 := Int.emod_nonneg cut (show ((way.length : Int) + 1) ≠ 0 by omega)
    have h3 := Int.emod_lt_of_pos cut h1
    exact ⟨(cut % ((way.length : Int) + 1)).toNat, by omega, by omega⟩
  have hw : IntKind.i64.wrap ((way.length : Int) + 1) = (way.length : Int) + 1 := i64_in _ (by omega)
  rcases spanF_or A way start with ⟨l, h, e⟩ | ⟨e1, e2, e3⟩
  · obtain ⟨a, b, x1, ⟨y, x2⟩, ⟨x, x3⟩, x4, x5⟩ := span_law e k hkl
    have hs : isTime start := of_decide_eq_true (spanF_iff.1 e).1.2.2.1
    have hs0 : 0 ≤ start := hs.1
    have hs1 : start ≤ 1048576 := hs.2
    have hl : IntKind.i64.wrap (start + IntKind.i64.wrap later) = start + later := by rw [i64_in later (by omega), i64_in _ (by omega)]
    simp only [hk, hl, Int.toNat_natCast, e, x1, x2, x3, reduceCtorEq, if_true, if_false, decide_true, decide_false, Bool.false_eq_true, true_imp_iff, not_true_eq_false, not_false_eq_true, false_imp_iff, and_false, false_and, or_false, false_or, eqf, eqt, bif_and, bif_or, Bool.not_not, Bool.not_eq_true', Bool.not_eq_false', Bool.or_eq_true, Bool.or_eq_false_iff, Bool.and_eq_true, Bool.and_eq_false_imp, decide_eq_true_eq, decide_eq_false_iff_not, bne_iff_ne, bne_eq_false_iff_eq, beq_iff_eq, beq_eq_false_iff_ne, ne_eq, Int.toNat_natCast, Int.not_lt, Int.not_le, ge_iff_le, gt_iff_lt, Int.natCast_nonneg, Int.ofNat_lt, imp_self, and_true, true_and, implies_true, Int.ofNat_inj, and_self, Classical.not_not]
    refine ⟨by omega, ⟨by omega, by omega⟩, ⟨by omega, by omega⟩, ⟨by omega, by omega⟩, fun q => by omega, fun _ => ⟨fun q => ⟨q, fun q2 => ⟨q, q2⟩⟩, ?_⟩⟩
    rcases spanF_or A way (start + later) with ⟨u, v, e2⟩ | ⟨e1, e2, e3⟩
    · have := span_later (by omega) e e2
      rw [e2]; exact .inr this
    · exact .inl e3
  · simp only [e1, e2, e3, reduceCtorEq, if_true, if_false, decide_true, decide_false, Bool.false_eq_true, true_imp_iff, not_true_eq_false, not_false_eq_true, false_imp_iff, and_false, false_and, or_false, false_or, eqf, eqt, bif_and, bif_or, Bool.not_not, Bool.not_eq_true', Bool.not_eq_false', Bool.or_eq_true, Bool.or_eq_false_iff, Bool.and_eq_true, Bool.and_eq_false_imp, decide_eq_true_eq, decide_eq_false_iff_not, bne_iff_ne, bne_eq_false_iff_eq, beq_iff_eq, beq_eq_false_iff_ne, ne_eq, Int.toNat_natCast, Int.not_lt, Int.not_le, ge_iff_le, gt_iff_lt, Int.natCast_nonneg, Int.ofNat_lt, imp_self, and_true, true_and, implies_true, Int.ofNat_inj, and_self, Classical.not_not]
end T
end Go.Proofs.Ytcjgofcfinbpeaa
