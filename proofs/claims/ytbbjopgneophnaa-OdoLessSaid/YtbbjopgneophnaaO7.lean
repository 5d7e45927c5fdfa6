/- OdoLess, by the typed walk. -/
import Derived.Test.YtbbjopgneophnaaO4
namespace Go.Proofs.Ytbbjopgneophnaa
set_option linter.unusedVariables false
set_option linter.unusedSimpArgs false
open Go.RowKit Go.IntWalk T
theorem set_get {l : List DDrv} {m i : Nat} {x : DDrv} (hm : m < l.length) : (l.set m x).getD i (0, 0, 0) = if i = m then x else l.getD i (0, 0, 0) := by
  rw [List.getD_eq_getElem?_getD, List.getElem?_set]
  by_cases c : m = i
  · subst c; rw [if_pos rfl, if_pos hm, if_pos rfl]; rfl
  · rw [if_neg c, if_neg (Ne.symm c), ← List.getD_eq_getElem?_getD]
theorem possGo_at {n : Int} {A : List DArc} {l : List DDrv} {m : Nat} (hb : badAt n A l m) : ∀ {k i : Nat}, i ≤ m → m < i + k → (∀ j, i ≤ j → j < m → ¬ badAt n A l j) → possGo n A l k i = ((m : Int), 19, ())
  | 0, i, h1, h2, _ => by omega
  | k + 1, i, h1, h2, h => by
    unfold possGo
    by_cases c : i = m
    · subst c; rw [if_pos hb]
    · rw [if_neg (h i (Nat.le_refl _) (by omega))]
      exact possGo_at hb (by omega) (by omega) fun j j1 j2 => h j (by omega) j2
/-- The last drive at the earliest time, and a minute before. -/
theorem less_soon {n : Int} {A : List DArc} {l : List DDrv} {m : Nat} (h : (possibleF n A l).2.1 = 0) (hl : l.length = m + 1) (hm : 1 ≤ m) {t : Int} (ht : t = (earliestF n A (l.getD (m - 1) (0, 0, 0)) (l.getD m (0, 0, 0)).2.1).1) :
    (earliestF n A (l.getD (m - 1) (0, 0, 0)) (l.getD m (0, 0, 0)).2.1).2.1 = 0 ∧ t ≤ (l.getD m (0, 0, 0)).1 ∧ (l.getD (m - 1) (0, 0, 0)).1 ≤ t ∧
    (possibleF n A (l.set m (t, (l.getD m (0, 0, 0)).2.1, (l.getD m (0, 0, 0)).2.2))).2.1 = 0 ∧
    (t - 1 < (l.getD (m - 1) (0, 0, 0)).1 → (possibleF n A (l.set m (t - 1, (l.getD m (0, 0, 0)).2.1, (l.getD m (0, 0, 0)).2.2))).2.1 = 1) ∧
    ((l.getD (m - 1) (0, 0, 0)).1 ≤ t - 1 → possibleF n A (l.set m (t - 1, (l.getD m (0, 0, 0)).2.1, (l.getD m (0, 0, 0)).2.2)) = ((m : Int), 19, ())) := by
  obtain ⟨h1, h2, h3⟩ := possibleF_iff.1 h
  obtain ⟨⟨n1, n2⟩, _, _⟩ := rightR_all h1
  obtain ⟨n, rfl⟩ : ∃ m : Nat, n = m := ⟨n.toNat, by omega⟩
  have hl2 : l.length ≤ 20000 := by
    unfold rightDF at h2; rw [Bool.and_eq_true] at h2; exact of_decide_eq_true h2.1
  have gm := badAt_iff.1 (h3 m hm (by omega))
  have fm := (rightDF_at h2 (show m < l.length by omega)).1
  have fm1 := (rightDF_at h2 (show m - 1 < l.length by omega)).1
  have sm := ((rightDF_at h2 (show m < l.length by omega)).2).resolve_left (by omega)
  have ff := fineB_iff.1 fm
  have ff1 := fineB_iff.1 fm1
  have ss := stepB_iff.1 sm
  obtain ⟨R, F, eR⟩ := earliestF_ok (to := (l.getD m (0, 0, 0)).2.1.toNat) h1 fm1 (by omega)
  rw [show (((l.getD m (0, 0, 0)).2.1.toNat : Nat) : Int) = (l.getD m (0, 0, 0)).2.1 by omega] at eR
  have g1 : (earliestF n A (l.getD (m - 1) (0, 0, 0)) (l.getD m (0, 0, 0)).2.1).2.1 = 0 := gm.1
  have g2 : t ≤ (l.getD m (0, 0, 0)).1 := by rw [ht]; exact gm.2
  have g3 : (l.getD (m - 1) (0, 0, 0)).1 ≤ t := by
    by_cases c : (R.getD (l.getD m (0, 0, 0)).2.1.toNat (0, 0)).1 < 0
    · rw [eR, if_pos c] at g1; exact absurd (show (4 : Int) = 0 from g1) (by decide)
    · rw [eR, if_neg c] at ht
      have := found_ge h1 F (l.getD m (0, 0, 0)).2.1.toNat (by omega) (by omega)
      rw [ht]; exact this
  -- with another last time
  have gen : ∀ s : Int, ((l.getD (m - 1) (0, 0, 0)).1 ≤ s → s ≤ 1048576 → rightDF n (l.set m (s, (l.getD m (0, 0, 0)).2.1, (l.getD m (0, 0, 0)).2.2)) = true) ∧ (s < (l.getD (m - 1) (0, 0, 0)).1 → rightDF n (l.set m (s, (l.getD m (0, 0, 0)).2.1, (l.getD m (0, 0, 0)).2.2)) = false) ∧
      (∀ j, 1 ≤ j → j < m → ¬ badAt n A (l.set m (s, (l.getD m (0, 0, 0)).2.1, (l.getD m (0, 0, 0)).2.2)) j) ∧ (badAt n A (l.set m (s, (l.getD m (0, 0, 0)).2.1, (l.getD m (0, 0, 0)).2.2)) m ↔ s < t) := by
    intro s
    have hg : ∀ i, (l.set m (s, (l.getD m (0, 0, 0)).2.1, (l.getD m (0, 0, 0)).2.2)).getD i (0, 0, 0) = if i = m then (s, (l.getD m (0, 0, 0)).2.1, (l.getD m (0, 0, 0)).2.2) else l.getD i (0, 0, 0) := fun i => set_get (by omega)
    have hlen : (l.set m (s, (l.getD m (0, 0, 0)).2.1, (l.getD m (0, 0, 0)).2.2)).length = m + 1 := by rw [List.length_set, hl]
    refine ⟨fun q1 q2 => ?_, fun q => ?_, fun j j1 j2 => ?_, ?_⟩
    · unfold rightDF
      rw [hlen, Bool.and_eq_true, decide_eq_true_iff, okDr_iff]
      refine ⟨by omega, fun i hi => ?_⟩
      by_cases c : i = m
      · subst c
        rw [hg, if_pos rfl, hg, if_neg (by omega)]
        refine ⟨fineB_iff.2 ⟨by show 0 ≤ s; omega, q2, ff.2.2⟩, .inr (stepB_iff.2 ⟨q1, ss.2⟩)⟩
      · rw [hg, if_neg c, hg, if_neg (by omega)]
        exact rightDF_at h2 (by omega)
    · unfold rightDF
      rw [okDr_no (k := m) (by omega), Bool.and_false]
      rintro ⟨_, q2⟩
      have q3 := stepB_iff.1 (q2.resolve_left (by omega))
      rw [hg, hg, if_pos rfl, if_neg (by omega)] at q3
      have q4 : (l.getD (m - 1) (0, 0, 0)).1 ≤ s := q3.1
      omega
    · rw [badAt_iff, hg, hg, if_neg (by omega), if_neg (by omega)]
      exact badAt_iff.1 (h3 j j1 (by omega))
    · unfold badAt
      rw [hg, hg, if_pos rfl, if_neg (by omega)]
      constructor
      · rintro (q | q)
        · exact absurd g1 q
        · rw [ht]; exact q
      · intro q
        right
        show s < (earliestF n A (l.getD (m - 1) (0, 0, 0)) (l.getD m (0, 0, 0)).2.1).1
        rw [← ht]; exact q
  have hlen : ∀ s : Int, (l.set m (s, (l.getD m (0, 0, 0)).2.1, (l.getD m (0, 0, 0)).2.2)).length = m + 1 := fun s => by rw [List.length_set, hl]
  refine ⟨g1, g2, g3, possibleF_iff.2 ⟨h1, (gen t).1 g3 (by omega), fun j j1 j2 => ?_⟩, fun q => ?_, fun q => ?_⟩
  · rw [hlen] at j2
    by_cases c : j = m
    · subst c; intro q; have := (gen t).2.2.2.1 q; omega
    · exact (gen t).2.2.1 j j1 (by omega)
  · unfold possibleF
    rw [if_neg]
    rintro ⟨_, q2⟩
    rw [(gen (t - 1)).2.1 q] at q2; cases q2
  · unfold possibleF
    rw [if_pos ⟨h1, (gen (t - 1)).1 q (by omega)⟩, hlen]
    exact possGo_at ((gen (t - 1)).2.2.2.2 (by omega)) (by omega) (by omega) (gen (t - 1)).2.2.1
namespace T
def entWithout : Ent := ⟨19, .cons (.sl (.st (.cons (.int .i64) (.cons (.int .i64) (.int .i64))))) (.cons (.int .i64) .nil), (.sl (.st (.cons (.int .i64) (.cons (.int .i64) (.int .i64))))), false, none, fun x => (0 : Int) ≤ x.2.1 ∧ (x.2.1 : Int) < List.length (α := DDrv) x.1 ∧ List.length (α := DDrv) x.1 ≤ 10, fun x => without x.1 (x.2.1 : Int).toNat⟩
def csWo : List Ent := [] theorem hcsWo (f : FuncId) : findEnt csWo f = findEnt [] f := rfl
theorem conWithout : Con Try.prog entWithout := by
  refine con_is (C := csWo) x19 (by kernel_rfl) (by simp [csWo]) fun x hx hf => ?_
  obtain ⟨(l : List DDrv), (k : Int), _⟩ := x
  obtain ⟨h0, h1, h2⟩ := hx
  dsimp only [entWithout, x19]; simp only [↓hcsWo, nilOf, ↓xwp_top, slicey, oslx, copyx, srcx, ↓xwp_dead, ↓xwp_rfor, ↓xwp_yld, ↓rndA_n, ↓rndB_n, rndA_x, rndB_x, rndA_r, rndB_r, ↓backR_n, ↓backR_r, backR_e, ↓hasLp_mk, setLp, entY, entR, ylOf, List.zip_cons_cons, List.zip_nil_left, List.zip_nil_right, mapOf, keyOf', ↓leQ_mk, ↓xwp_icall, ↓backQ_n, ↓backQ_r, ↓backQ_e, afterI, entI, exI, oneAV, keepI, XO.reads, XA.slot, eqsx, eqd,  List.drop_zero, List.take_length, Int.toNat_zero, Int.toNat_natCast, List.set_cons_zero, List.set_cons_succ, ↓xwp_clean, tmG, cleanS, headT, numb, rensT, tmle, fastD, runR_true, runR_false, quiet, Eff.tch, ↓xwp_seq, ↓xwp_skip, ↓xwp_ret, ↓xwp_exit, ↓xwp_block, ↓xwp_loop, ↓xwp_reg, ↓xwp_cond, ↓thn_n, ↓thn_e, ↓thn_r, ↓XQ.seq, ↓XQ.blk, List.getElem?_cons_succ, List.getElem?_cons_zero, List.getElem?_nil, runT, stepT, gop, gcond, opg, pickx, boolOf, XOp.isPick, opx, stripL, strip, pur, XO.gv, XA.av, setT, appL, killL, effOk, ltAll, AV.locs, AV.locsL, OB.locs, look, enter, resAVs, binx, intBin, eqx, lenx, condOf, loadx, partOf, storex, splice, cellsOf, scatter, zeroAV, fieldx, faddrx, iaddrx, bounds, avInt, avIntK, avBool, extx, slicex, fillx, rowx, callx, callvx, fn1x, fn2x, findEnt, rdL, rdA, rdClo, rdCap, rd, rd1, rdAgg, rdPtr, rdc, rd1c, ofCst, proj, upd, appendx, srcx, freshEff, minx, Ty.isSt, Ty.size, Ty.scalar, Ty.dflt, cast?_self, List.map_cons, List.map_nil, List.getD_cons_zero, List.getD_cons_succ, List.length_cons, List.length_nil, List.cons_append, List.nil_append, List.append_nil, List.filter_cons, List.filter_nil, List.isEmpty_nil, List.isEmpty_cons, Option.map_some, Option.map_none, Option.bind_some, Option.isNone_none, Option.isNone_some, Bool.false_eq_true, if_true, if_false, ite_true, ite_false, Bool.and_true, Bool.true_and, Bool.and_false, Bool.false_and, and_true, true_and, and_self, not_true_eq_false, not_false_eq_true, imp_self, forall_const, true_imp_iff, implies_true, decide_true, decide_false, cond_true, cond_false, reduceCtorEq, List.find?_cons, List.find?_nil, beq_self_eq_true, List.drop_zero, List.take_zero, List.drop_succ_cons, List.take_succ_cons, Nat.reduceAdd, Nat.reduceSub, Nat.reduceMul, Nat.reduceLT, Nat.reduceLeDiff, Nat.reduceEqDiff, Nat.reduceBEq, Nat.reduceBNe, List.reduceReplicate, reduceIte, retQ, finish, resAll, resAV, freshIs, stepD, runD, okD, meet, reach, reachO, restr, inAll, effIn, headOf, puts, put1, keep, le', autoρ, tidy, renB, rens, ren1, asle, avles, avle, hple, oble, uniq, sub, locOk, assoc, disj, List.all_cons, List.all_nil, List.any_cons, List.any_nil, List.contains_nil, List.contains_cons, List.flatMap_cons, List.flatMap_nil, List.mem_cons, List.not_mem_nil, or_false, false_or, or_true, true_or, or_self, Bool.or_false, Bool.or_true, Bool.true_or, Bool.false_or, Bool.not_true, Bool.not_false, List.take_nil, List.drop_nil, eq_self, Option.some.injEq, false_and, and_false, ↓reduceIte]
  try simp only [reduceCtorEq, if_true, if_false, decide_true, decide_false, Bool.false_eq_true, true_imp_iff, not_true_eq_false, not_false_eq_true, false_imp_iff, and_false, false_and, or_false, false_or, eqf, eqt, bif_and, bif_or, Bool.not_not, Bool.not_eq_true', Bool.not_eq_false', Bool.or_eq_true, Bool.or_eq_false_iff, Bool.and_eq_true, Bool.and_eq_false_imp, decide_eq_true_eq, decide_eq_false_iff_not, bne_iff_ne, bne_eq_false_iff_eq, beq_iff_eq, beq_eq_false_iff_ne, ne_eq, Int.toNat_natCast, Int.not_lt, Int.not_le, ge_iff_le, gt_iff_lt, Int.natCast_nonneg, Int.ofNat_lt, imp_self, and_true, true_and, implies_true, Int.ofNat_inj, and_self, Classical.not_not]
  have h0 : 0 ≤ k := h0
  have h1 : k < l.length := h1
  have h2 : l.length ≤ 10 := h2
  obtain ⟨k, rfl⟩ : ∃ m : Nat, k = m := ⟨k.toNat, by omega⟩
  have w1 : IntKind.i64.wrap ((k : Int) + 1) = ((k + 1 : Nat) : Int) := i64_in _ (by omega)
  rw [w1, Int.toNat_natCast, Int.toNat_natCast]
  have l1 : (List.take k l).length ≤ 10 := by rw [List.length_take]; omega
  have l2 : (List.drop (k + 1) l).length ≤ 10 := by rw [List.length_drop]; omega
  exact ⟨⟨⟨by omega, by omega, by omega⟩, by omega, ⟨by omega, by omega, by omega⟩, by omega⟩, rfl⟩
def entOLess : Ent := ⟨4, .cons (.int .i64) (.cons (.sl (.st (.cons (.int .i64) (.cons (.int .i64) (.cons (.sl (.int .i64)) (.sl (.int .i64))))))) (.cons (.sl (.st (.cons (.int .i64) (.cons (.int .i64) (.int .i64))))) (.cons (.int .u8) .nil))), .bool, false, none, fun _ => True, fun _ => true⟩
def csOs : List Ent := [entSmall45, entFew11, entFewD, entPossible, entEarliest, entWithout] theorem hcsOs (f : FuncId) : findEnt csOs f = findEnt [entSmall45, entFew11, entFewD, entPossible, entEarliest, entWithout] f := rfl
set_option maxHeartbeats 2500000 in
set_option maxRecDepth 20000 in
theorem conOLess : Con Try.prog entOLess := by
  refine con_is (C := csOs) x4 (by kernel_rfl) (by simp [csOs, conSmall45, conFew11, conFewD, conPossible, conEarliest, conWithout]) fun x hx hf => ?_
  obtain ⟨(n : Int), (A : List DArc), (l : List DDrv), (w : Int), _⟩ := x
  have hw : 0 ≤ w ∧ w ≤ 255 := hf.2.2.2.1
  dsimp only [entOLess, x4]; simp only [↓hcsOs, entSmall45, entFew11, entFewD, entPossible, entEarliest, entWithout, nilOf, ↓xwp_top, slicey, oslx, copyx, srcx, ↓xwp_dead, ↓xwp_rfor, ↓xwp_yld, ↓rndA_n, ↓rndB_n, rndA_x, rndB_x, rndA_r, rndB_r, ↓backR_n, ↓backR_r, backR_e, ↓hasLp_mk, setLp, entY, entR, ylOf, List.zip_cons_cons, List.zip_nil_left, List.zip_nil_right, mapOf, keyOf', ↓leQ_mk, ↓xwp_icall, ↓backQ_n, ↓backQ_r, ↓backQ_e, afterI, entI, exI, oneAV, keepI, XO.reads, XA.slot, eqsx, eqd,  List.drop_zero, List.take_length, Int.toNat_zero, Int.toNat_natCast, List.set_cons_zero, List.set_cons_succ, ↓xwp_clean, tmG, cleanS, headT, numb, rensT, tmle, fastD, runR_true, runR_false, quiet, Eff.tch, ↓xwp_seq, ↓xwp_skip, ↓xwp_ret, ↓xwp_exit, ↓xwp_block, ↓xwp_loop, ↓xwp_reg, ↓xwp_cond, ↓thn_n, ↓thn_e, ↓thn_r, ↓XQ.seq, ↓XQ.blk, List.getElem?_cons_succ, List.getElem?_cons_zero, List.getElem?_nil, runT, stepT, gop, gcond, opg, pickx, boolOf, XOp.isPick, opx, stripL, strip, pur, XO.gv, XA.av, setT, appL, killL, effOk, ltAll, AV.locs, AV.locsL, OB.locs, look, enter, resAVs, binx, intBin, eqx, lenx, condOf, loadx, partOf, storex, splice, cellsOf, scatter, zeroAV, fieldx, faddrx, iaddrx, bounds, avInt, avIntK, avBool, extx, slicex, fillx, rowx, callx, callvx, fn1x, fn2x, findEnt, rdL, rdA, rdClo, rdCap, rd, rd1, rdAgg, rdPtr, rdc, rd1c, ofCst, proj, upd, appendx, srcx, freshEff, minx, Ty.isSt, Ty.size, Ty.scalar, Ty.dflt, cast?_self, List.map_cons, List.map_nil, List.getD_cons_zero, List.getD_cons_succ, List.length_cons, List.length_nil, List.cons_append, List.nil_append, List.append_nil, List.filter_cons, List.filter_nil, List.isEmpty_nil, List.isEmpty_cons, Option.map_some, Option.map_none, Option.bind_some, Option.isNone_none, Option.isNone_some, Bool.false_eq_true, if_true, if_false, ite_true, ite_false, Bool.and_true, Bool.true_and, Bool.and_false, Bool.false_and, and_true, true_and, and_self, not_true_eq_false, not_false_eq_true, imp_self, forall_const, true_imp_iff, implies_true, decide_true, decide_false, cond_true, cond_false, reduceCtorEq, List.find?_cons, List.find?_nil, beq_self_eq_true, List.drop_zero, List.take_zero, List.drop_succ_cons, List.take_succ_cons, Nat.reduceAdd, Nat.reduceSub, Nat.reduceMul, Nat.reduceLT, Nat.reduceLeDiff, Nat.reduceEqDiff, Nat.reduceBEq, Nat.reduceBNe, List.reduceReplicate, reduceIte, retQ, finish, resAll, resAV, freshIs, stepD, runD, okD, meet, reach, reachO, restr, inAll, effIn, headOf, puts, put1, keep, le', autoρ, tidy, renB, rens, ren1, asle, avles, avle, hple, oble, uniq, sub, locOk, assoc, disj, List.all_cons, List.all_nil, List.any_cons, List.any_nil, List.contains_nil, List.contains_cons, List.flatMap_cons, List.flatMap_nil, List.mem_cons, List.not_mem_nil, or_false, false_or, or_true, true_or, or_self, Bool.or_false, Bool.or_true, Bool.true_or, Bool.false_or, Bool.not_true, Bool.not_false, List.take_nil, List.drop_nil, eq_self, Option.some.injEq, false_and, and_false, ↓reduceIte]
  try simp only [reduceCtorEq, if_true, if_false, decide_true, decide_false, Bool.false_eq_true, true_imp_iff, not_true_eq_false, not_false_eq_true, false_imp_iff, and_false, false_and, or_false, false_or, eqf, eqt, bif_and, bif_or, Bool.not_not, Bool.not_eq_true', Bool.not_eq_false', Bool.or_eq_true, Bool.or_eq_false_iff, Bool.and_eq_true, Bool.and_eq_false_imp, decide_eq_true_eq, decide_eq_false_iff_not, bne_iff_ne, bne_eq_false_iff_eq, beq_iff_eq, beq_eq_false_iff_ne, ne_eq, Int.toNat_natCast, Int.not_lt, Int.not_le, ge_iff_le, gt_iff_lt, Int.natCast_nonneg, Int.ofNat_lt, imp_self, and_true, true_and, implies_true, Int.ofNat_inj, and_self, Classical.not_not]
  rintro ⟨⟨_, hfd⟩, hne⟩ hp
  have hlen := (fewD_iff.1 hfd).1
  obtain ⟨m, hm⟩ : ∃ m, l.length = m + 1 := ⟨l.length - 1, by omega⟩
  have w0 : IntKind.i64.wrap w = w := i64_in _ (by omega)
  have w1 : IntKind.i64.wrap ((l.length : Int) - 1) = (m : Int) := by rw [i64_in _ (by omega)]; omega
  obtain ⟨k, hk, hkl⟩ : ∃ k : Nat, w.tmod (l.length : Int) = (k : Int) ∧ k < l.length := by
    have q1 := Int.tmod_nonneg (l.length : Int) hw.1
    have q2 := Int.tmod_lt_of_pos w (show 0 < (l.length : Int) by omega)
    exact ⟨(w.tmod l.length).toNat, by omega, by omega⟩
  simp only [w0, w1, hk, Int.toNat_natCast]
  refine ⟨hne, ⟨Int.natCast_nonneg k, Int.ofNat_lt.2 hkl, hlen⟩, fun q => q (possible_less hkl hp), fun _ hm0 => ?_⟩
  have w3 : IntKind.i64.wrap ((m : Int) - 1) = ((m - 1 : Nat) : Int) := by rw [i64_in _ (by omega)]; omega
  simp only [w3, Int.toNat_natCast]
  obtain ⟨g1, g2, g3, g4, g5, g6⟩ := less_soon hp hm (by omega) rfl
  have hfm := fineB_iff.1 (rightDF_at (possibleF_iff.1 hp).2.1 (show m < l.length by omega)).1
  have hfm1 := fineB_iff.1 (rightDF_at (possibleF_iff.1 hp).2.1 (show m - 1 < l.length by omega)).1
  generalize earliestF n A (l.getD (m - 1) (0, 0, 0)) (l.getD m (0, 0, 0)).2.1 = e at g1 g2 g3 g4 g5 g6 ⊢
  have w4 : IntKind.i64.wrap (e.1 - 1) = e.1 - 1 := i64_in _ (by omega)
  have g4 : (possibleF n A (l.set m (e.1, (l.getD m (0, 0, 0)).2))).2.1 = 0 := g4
  have g5 : e.1 - 1 < (l.getD (m - 1) (0, 0, 0)).1 → (possibleF n A (l.set m (e.1 - 1, (l.getD m (0, 0, 0)).2))).2.1 = 1 := g5
  have g6 : (l.getD (m - 1) (0, 0, 0)).1 ≤ e.1 - 1 → possibleF n A (l.set m (e.1 - 1, (l.getD m (0, 0, 0)).2)) = ((m : Int), 19, ()) := g6
  have hgm : ∀ x : DDrv, (l.set m x).getD m (0, 0, 0) = x := fun x => by rw [set_get (by omega), if_pos rfl]
  simp only [w4, hgm, List.set_set, List.length_set]
  generalize possibleF n A (l.set m (e.1, (l.getD m (0, 0, 0)).2)) = P1 at g4 ⊢
  generalize possibleF n A (l.set m (e.1 - 1, (l.getD m (0, 0, 0)).2)) = P2 at g5 g6 ⊢
  generalize (l.getD (m - 1) (0, 0, 0)).1 = T0 at g3 g5 g6 hfm1 ⊢
  generalize (l.getD m (0, 0, 0)).1 = T1 at g2 hfm ⊢
  have b1 : (0 : Int) ≤ ((m - 1 : Nat) : Int) ∧ ((m - 1 : Nat) : Int) < (l.length : Int) := by omega
  have b2 : (0 : Int) ≤ (m : Int) ∧ (m : Int) < (l.length : Int) := by omega
  have b3 : m < l.length := by omega
  refine ⟨⟨b1, b2⟩, ⟨fun q => ⟨q, b2⟩, fun q => ⟨q, b1⟩⟩, fun q => ?_, fun q => ⟨by omega, ⟨b2, b3⟩, ⟨b2, b3⟩, ⟨fun q => ⟨q, b1⟩, fun q => ⟨q, fun q2 => ⟨q, q2⟩⟩, fun q => ⟨q, b1⟩, fun q => ⟨q, fun q2 => ⟨q, q2⟩⟩, fun q => ⟨q, fun q2 => ⟨q, q2⟩⟩, fun q => ⟨q, fun q2 => ⟨q, q2⟩⟩⟩, g4, ?_⟩⟩
  · rcases q with (q | q) | q
    · exact q g1
    · exact absurd g2 (Int.not_le.2 q)
    · exact absurd g3 (Int.not_le.2 q)
  · by_cases c : e.1 - 1 < T0
    · exact .inl ⟨c, g5 c⟩
    · rw [g6 (Int.not_lt.1 c)]
      exact .inr ⟨⟨Int.not_lt.1 c, rfl⟩, rfl⟩
end T
end Go.Proofs.Ytbbjopgneophnaa
