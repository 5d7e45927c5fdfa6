/- Soundness of labels, by the typed walk: the program's and the reference's. -/
import Derived.Test.YtcjgofcfinbpeaaL10
namespace Go.Proofs.Ytcjgofcfinbpeaa
set_option linter.unusedVariables false
set_option linter.unusedSimpArgs false
open Go.RowKit Go.IntWalk
namespace T
theorem byOk_iff {A : List DArc} {L : List DLab} {v : Int} : byOk A L v = true ↔ 0 ≤ (L.getD v.toNat (0, 0)).2 ∧ (L.getD v.toNat (0, 0)).2 < A.length := by
  unfold byOk
  rw [Bool.and_eq_true, decide_eq_true_iff, decide_eq_true_iff]
theorem nodeOk_src {A : List DArc} {src start : Int} {hi : Bool} {L : List DLab} {i : Nat} (h : (i : Int) = src) : nodeOk A src start hi L i = true ↔ (L.getD i (0, 0)).1 = start ∧ (L.getD i (0, 0)).2 = -1 := by
  unfold nodeOk
  rw [if_pos h, Bool.and_eq_true, decide_eq_true_iff, decide_eq_true_iff]
theorem nodeOk_none {A : List DArc} {src start : Int} {hi : Bool} {L : List DLab} {i : Nat} (h : ¬ (i : Int) = src) (h1 : (L.getD i (0, 0)).1 = -1) : nodeOk A src start hi L i = true ↔ (L.getD i (0, 0)).2 = -1 := by
  unfold nodeOk
  rw [if_neg h, if_pos h1, decide_eq_true_iff]
theorem nodeOk_some {A : List DArc} {src start : Int} {hi : Bool} {L : List DLab} {i : Nat} (h : ¬ (i : Int) = src) (h1 : ¬ (L.getD i (0, 0)).1 = -1) : nodeOk A src start hi L i = true ↔
    timeB (L.getD i (0, 0)).1 = true ∧ (0 ≤ (L.getD i (0, 0)).2 ∧ (L.getD i (0, 0)).2 < A.length) ∧ (A.getD (L.getD i (0, 0)).2.toNat (0, 0, [], [])).2.1 = i ∧ timeB (L.getD (A.getD (L.getD i (0, 0)).2.toNat (0, 0, [], [])).1.toNat (0, 0)).1 = true ∧
      (toArc (A.getD (L.getD i (0, 0)).2.toNat (0, 0, [], []))).passF hi (L.getD (A.getD (L.getD i (0, 0)).2.toNat (0, 0, [], [])).1.toNat (0, 0)).1 = (L.getD i (0, 0)).1 := by
  unfold nodeOk
  rw [if_neg h, if_neg h1, Bool.and_eq_true, Bool.and_eq_true, Bool.and_eq_true, Bool.and_eq_true, decide_eq_true_iff, decide_eq_true_iff, byOk_iff]
  exact Iff.rfl
theorem timeB_neg : timeB (-1) = false := rfl
theorem soundF_not {A : List DArc} {src start : Int} {hi : Bool} {L : List DLab} {i : Nat} (h : i < L.length) (hn : nodeOk A src start hi L i = false) : false = soundF A src start hi L := by
  symm
  unfold soundF
  rw [List.all_eq_false]
  exact ⟨i, List.mem_range.2 h, by rw [hn]; simp⟩
theorem soundF_home {A : List DArc} {src start : Int} {hi : Bool} {L : List DLab} (h : ∀ i, i < L.length → nodeOk A src start hi L i = true) : soundF A src start hi L = (List.range L.length).all (homeOk A src L) := by
  unfold soundF
  rw [Bool.eq_iff_iff, all_range, all_range]
  exact ⟨fun q i hi => by have := q i hi; rw [Bool.and_eq_true] at this; exact this.2, fun q i hi => by rw [h i hi, q i hi]; rfl⟩
def entSoundP : Ent := ⟨42, .cons (.sl (.st (.cons (.int .i64) (.cons (.int .i64) (.cons (.sl (.int .i64)) (.sl (.int .i64))))))) (.cons (.int .i64) (.cons (.int .i64) (.cons .bool (.cons (.sl (.st (.cons (.int .i64) (.int .i64)))) .nil)))), .bool, false, none, fun x => (∀ a ∈ (x.1 : List DArc), 0 ≤ a.1 ∧ a.1 < List.length (α := DLab) x.2.2.2.2.1) ∧ 0 ≤ x.2.1 ∧ x.2.1 < List.length (α := DLab) x.2.2.2.2.1 ∧ List.length (α := DLab) x.2.2.2.2.1 ≤ 2000, fun x => soundF x.1 x.2.1 x.2.2.1 x.2.2.2.1 x.2.2.2.2.1⟩
def csSo : List Ent := [entTimeL, entPass, entTree] theorem hcsSo (f : FuncId) : findEnt csSo f = findEnt [entTimeL, entPass, entTree] f := rfl
set_option maxHeartbeats 1000000 in
theorem conSoundP : Con Try.prog entSoundP := by
  refine con_is (C := csSo) x42 (by kernel_rfl) (by simp [csSo, conTimeL, conPass, conTree]) fun x hx hf => ?_
  obtain ⟨(A : List DArc), (src : Int), (start : Int), (hi : Bool), (L : List DLab), _⟩ := x
  have hA : A.length ≤ 9223372036854775807 := hf.1.1
  obtain ⟨hr, h0, h1, hL⟩ := hx
  dsimp only at hr h0 h1 hL
  have h0 : (0 : Int) ≤ src := h0
  have h1 : src < (L.length : Int) := h1
  dsimp only [entSoundP, x42]; simp only [↓hcsSo, entTimeL, entPass, entTree, mapOf, keyOf', ↓leQ_mk, ↓xwp_icall, ↓backQ_n, ↓backQ_r, ↓backQ_e, afterI, entI, exI, oneAV, keepI, XO.reads, XA.slot, eqsx, eqd,  List.drop_zero, List.take_length, Int.toNat_zero, Int.toNat_natCast, List.set_cons_zero, List.set_cons_succ, ↓xwp_clean, tmG, cleanS, headT, numb, rensT, tmle, fastD, runR_true, runR_false, quiet, Eff.tch, ↓xwp_seq, ↓xwp_skip, ↓xwp_ret, ↓xwp_exit, ↓xwp_block, ↓xwp_loop, ↓xwp_reg, ↓xwp_cond, ↓thn_n, ↓thn_e, ↓thn_r, ↓XQ.seq, ↓XQ.blk, List.getElem?_cons_succ, List.getElem?_cons_zero, List.getElem?_nil, runT, stepT, gop, gcond, opg, pickx, boolOf, XOp.isPick, opx, stripL, strip, pur, XO.gv, XA.av, setT, appL, killL, effOk, ltAll, AV.locs, AV.locsL, OB.locs, look, enter, resAVs, binx, intBin, eqx, lenx, condOf, loadx, partOf, storex, splice, cellsOf, scatter, zeroAV, fieldx, faddrx, iaddrx, bounds, avInt, avIntK, avBool, extx, slicex, fillx, rowx, callx, callvx, fn1x, fn2x, findEnt, rdL, rdA, rdClo, rdCap, rd, rd1, rdAgg, rdPtr, rdc, rd1c, ofCst, proj, upd, appendx, srcx, freshEff, minx, Ty.isSt, Ty.size, Ty.scalar, Ty.dflt, cast?_self, List.map_cons, List.map_nil, List.getD_cons_zero, List.getD_cons_succ, List.length_cons, List.length_nil, List.cons_append, List.nil_append, List.append_nil, List.filter_cons, List.filter_nil, List.isEmpty_nil, List.isEmpty_cons, Option.map_some, Option.map_none, Option.bind_some, Option.isNone_none, Option.isNone_some, Bool.false_eq_true, if_true, if_false, ite_true, ite_false, Bool.and_true, Bool.true_and, Bool.and_false, Bool.false_and, and_true, true_and, and_self, not_true_eq_false, not_false_eq_true, imp_self, forall_const, true_imp_iff, implies_true, decide_true, decide_false, cond_true, cond_false, reduceCtorEq, List.find?_cons, List.find?_nil, beq_self_eq_true, List.drop_zero, List.take_zero, List.drop_succ_cons, List.take_succ_cons, Nat.reduceAdd, Nat.reduceSub, Nat.reduceMul, Nat.reduceLT, Nat.reduceLeDiff, Nat.reduceEqDiff, Nat.reduceBEq, Nat.reduceBNe, List.reduceReplicate, reduceIte, retQ, finish, resAll, resAV, freshIs, stepD, runD, okD, meet, reach, restr, inAll, effIn, headOf, puts, put1, keep, le', autoρ, tidy, renB, rens, ren1, asle, avles, avle, hple, oble, uniq, sub, locOk, assoc, disj, List.all_cons, List.all_nil, List.any_cons, List.any_nil, List.contains_nil, List.contains_cons, List.flatMap_cons, List.flatMap_nil, List.mem_cons, List.not_mem_nil, or_false, false_or, or_true, true_or, or_self, Bool.or_false, Bool.or_true, Bool.true_or, Bool.false_or, Bool.not_true, Bool.not_false, List.take_nil, List.drop_nil, eq_self, Option.some.injEq, false_and, and_false, ↓reduceIte]
  try simp only [reduceCtorEq, if_true, if_false, decide_true, decide_false, Bool.false_eq_true, true_imp_iff, not_true_eq_false, not_false_eq_true, false_imp_iff, and_false, false_and, or_false, false_or, eqf, eqt, bif_and, bif_or, Bool.not_not, Bool.not_eq_true', Bool.not_eq_false', Bool.or_eq_true, Bool.or_eq_false_iff, Bool.and_eq_true, Bool.and_eq_false_imp, decide_eq_true_eq, decide_eq_false_iff_not, bne_iff_ne, bne_eq_false_iff_eq, beq_iff_eq, beq_eq_false_iff_ne, ne_eq, Int.toNat_natCast, Int.not_lt, Int.not_le, ge_iff_le, gt_iff_lt, Int.natCast_nonneg, Int.ofNat_lt, imp_self, and_true, true_and, implies_true, Int.ofNat_inj, and_self, Classical.not_not]
  try dsimp only [Ty.den]
  refine ⟨⟨h0, h1⟩, fun h => soundF_not (i := src.toNat) (by omega) (Bool.eq_false_iff.2 fun q => ?_), fun hsrc => ?_⟩
  · obtain ⟨q1, q2⟩ := (nodeOk_src (Int.toNat_of_nonneg h0)).1 q
    exact h q1 q2
  refine XW_for 1000 x42_0d [] Nat (fun j => [(24, .val (.int .i64) (j : Int))]) (fun _ => []) (fun j => j ≤ L.length ∧ ∀ i, i < j → nodeOk A src start hi L i = true) (fun j => L.length - j) 0 ?_ ?_ ?_
  · dsimp only [x42_0d]; simp only [mapOf, keyOf', ↓leQ_mk, ↓xwp_icall, ↓backQ_n, ↓backQ_r, ↓backQ_e, afterI, entI, exI, oneAV, keepI, XO.reads, XA.slot, eqsx, eqd,  List.drop_zero, List.take_length, Int.toNat_zero, Int.toNat_natCast, List.set_cons_zero, List.set_cons_succ, ↓xwp_clean, tmG, cleanS, headT, numb, rensT, tmle, fastD, runR_true, runR_false, quiet, Eff.tch, ↓xwp_seq, ↓xwp_skip, ↓xwp_ret, ↓xwp_exit, ↓xwp_block, ↓xwp_loop, ↓xwp_reg, ↓xwp_cond, ↓thn_n, ↓thn_e, ↓thn_r, ↓XQ.seq, ↓XQ.blk, List.getElem?_cons_succ, List.getElem?_cons_zero, List.getElem?_nil, runT, stepT, gop, gcond, opg, pickx, boolOf, XOp.isPick, opx, stripL, strip, pur, XO.gv, XA.av, setT, appL, killL, effOk, ltAll, AV.locs, AV.locsL, OB.locs, look, enter, resAVs, binx, intBin, eqx, lenx, condOf, loadx, partOf, storex, splice, cellsOf, scatter, zeroAV, fieldx, faddrx, iaddrx, bounds, avInt, avIntK, avBool, extx, slicex, fillx, rowx, callx, callvx, fn1x, fn2x, findEnt, rdL, rdA, rdClo, rdCap, rd, rd1, rdAgg, rdPtr, rdc, rd1c, ofCst, proj, upd, appendx, srcx, freshEff, minx, Ty.isSt, Ty.size, Ty.scalar, Ty.dflt, cast?_self, List.map_cons, List.map_nil, List.getD_cons_zero, List.getD_cons_succ, List.length_cons, List.length_nil, List.cons_append, List.nil_append, List.append_nil, List.filter_cons, List.filter_nil, List.isEmpty_nil, List.isEmpty_cons, Option.map_some, Option.map_none, Option.bind_some, Option.isNone_none, Option.isNone_some, Bool.false_eq_true, if_true, if_false, ite_true, ite_false, Bool.and_true, Bool.true_and, Bool.and_false, Bool.false_and, and_true, true_and, and_self, not_true_eq_false, not_false_eq_true, imp_self, forall_const, true_imp_iff, implies_true, decide_true, decide_false, cond_true, cond_false, reduceCtorEq, List.find?_cons, List.find?_nil, beq_self_eq_true, List.drop_zero, List.take_zero, List.drop_succ_cons, List.take_succ_cons, Nat.reduceAdd, Nat.reduceSub, Nat.reduceMul, Nat.reduceLT, Nat.reduceLeDiff, Nat.reduceEqDiff, Nat.reduceBEq, Nat.reduceBNe, List.reduceReplicate, reduceIte, retQ, finish, resAll, resAV, freshIs, stepD, runD, okD, meet, reach, restr, inAll, effIn, headOf, puts, put1, keep, le', autoρ, tidy, renB, rens, ren1, asle, avles, avle, hple, oble, uniq, sub, locOk, assoc, disj, List.all_cons, List.all_nil, List.any_cons, List.any_nil, List.contains_nil, List.contains_cons, List.flatMap_cons, List.flatMap_nil, List.mem_cons, List.not_mem_nil, or_false, false_or, or_true, true_or, or_self, Bool.or_false, Bool.or_true, Bool.true_or, Bool.false_or, Bool.not_true, Bool.not_false, List.take_nil, List.drop_nil, eq_self, Option.some.injEq, false_and, and_false, ↓reduceIte]; try trivial
  · exact ⟨Nat.zero_le _, fun i hi => by omega⟩
  · rintro j ⟨hj, hall⟩
    dsimp only [x42_0, x42_0d]; simp only [↓hcsSo, entTimeL, entPass, entTree, mapOf, keyOf', ↓leQ_mk, ↓xwp_icall, ↓backQ_n, ↓backQ_r, ↓backQ_e, afterI, entI, exI, oneAV, keepI, XO.reads, XA.slot, eqsx, eqd,  List.drop_zero, List.take_length, Int.toNat_zero, Int.toNat_natCast, List.set_cons_zero, List.set_cons_succ, ↓xwp_clean, tmG, cleanS, headT, numb, rensT, tmle, fastD, runR_true, runR_false, quiet, Eff.tch, ↓xwp_seq, ↓xwp_skip, ↓xwp_ret, ↓xwp_exit, ↓xwp_block, ↓xwp_loop, ↓xwp_reg, ↓xwp_cond, ↓thn_n, ↓thn_e, ↓thn_r, ↓XQ.seq, ↓XQ.blk, List.getElem?_cons_succ, List.getElem?_cons_zero, List.getElem?_nil, runT, stepT, gop, gcond, opg, pickx, boolOf, XOp.isPick, opx, stripL, strip, pur, XO.gv, XA.av, setT, appL, killL, effOk, ltAll, AV.locs, AV.locsL, OB.locs, look, enter, resAVs, binx, intBin, eqx, lenx, condOf, loadx, partOf, storex, splice, cellsOf, scatter, zeroAV, fieldx, faddrx, iaddrx, bounds, avInt, avIntK, avBool, extx, slicex, fillx, rowx, callx, callvx, fn1x, fn2x, findEnt, rdL, rdA, rdClo, rdCap, rd, rd1, rdAgg, rdPtr, rdc, rd1c, ofCst, proj, upd, appendx, srcx, freshEff, minx, Ty.isSt, Ty.size, Ty.scalar, Ty.dflt, cast?_self, List.map_cons, List.map_nil, List.getD_cons_zero, List.getD_cons_succ, List.length_cons, List.length_nil, List.cons_append, List.nil_append, List.append_nil, List.filter_cons, List.filter_nil, List.isEmpty_nil, List.isEmpty_cons, Option.map_some, Option.map_none, Option.bind_some, Option.isNone_none, Option.isNone_some, Bool.false_eq_true, if_true, if_false, ite_true, ite_false, Bool.and_true, Bool.true_and, Bool.and_false, Bool.false_and, and_true, true_and, and_self, not_true_eq_false, not_false_eq_true, imp_self, forall_const, true_imp_iff, implies_true, decide_true, decide_false, cond_true, cond_false, reduceCtorEq, List.find?_cons, List.find?_nil, beq_self_eq_true, List.drop_zero, List.take_zero, List.drop_succ_cons, List.take_succ_cons, Nat.reduceAdd, Nat.reduceSub, Nat.reduceMul, Nat.reduceLT, Nat.reduceLeDiff, Nat.reduceEqDiff, Nat.reduceBEq, Nat.reduceBNe, List.reduceReplicate, reduceIte, retQ, finish, resAll, resAV, freshIs, stepD, runD, okD, meet, reach, restr, inAll, effIn, headOf, puts, put1, keep, le', autoρ, tidy, renB, rens, ren1, asle, avles, avle, hple, oble, uniq, sub, locOk, assoc, disj, List.all_cons, List.all_nil, List.any_cons, List.any_nil, List.contains_nil, List.contains_cons, List.flatMap_cons, List.flatMap_nil, List.mem_cons, List.not_mem_nil, or_false, false_or, or_true, true_or, or_self, Bool.or_false, Bool.or_true, Bool.true_or, Bool.false_or, Bool.not_true, Bool.not_false, List.take_nil, List.drop_nil, eq_self, Option.some.injEq, false_and, and_false, ↓reduceIte]
    by_cases hjl : j < L.length
    · have w2 : IntKind.i64.wrap ((j : Int) + 1) = ((j + 1 : Nat) : Int) := i64_in _ (by omega)
      simp only [hjl, w2, reduceCtorEq, if_true, if_false, decide_true, decide_false, Bool.false_eq_true, true_imp_iff, not_true_eq_false, not_false_eq_true, false_imp_iff, and_false, false_and, or_false, false_or, eqf, eqt, bif_and, bif_or, Bool.not_not, Bool.not_eq_true', Bool.not_eq_false', Bool.or_eq_true, Bool.or_eq_false_iff, Bool.and_eq_true, Bool.and_eq_false_imp, decide_eq_true_eq, decide_eq_false_iff_not, bne_iff_ne, bne_eq_false_iff_eq, beq_iff_eq, beq_eq_false_iff_ne, ne_eq, Int.toNat_natCast, Int.not_lt, Int.not_le, ge_iff_le, gt_iff_lt, Int.natCast_nonneg, Int.ofNat_lt, imp_self, and_true, true_and, implies_true, Int.ofNat_inj, and_self, Classical.not_not]
      have step : nodeOk A src start hi L j = true → ∃ x', L.length - x' < L.length - j ∧ (x' ≤ L.length ∧ ∀ i, i < x' → nodeOk A src start hi L i = true) ∧ j + 1 = x' := fun h => ⟨j + 1, by omega, ⟨by omega, fun i hi => by
        by_cases c : i = j
        · subst c; exact h
        · exact hall i (by omega)⟩, rfl⟩
      have bad : ¬ nodeOk A src start hi L j = true → false = soundF A src start hi L := fun h => soundF_not hjl (Bool.eq_false_iff.2 h)
      refine ⟨fun h => step ((nodeOk_src h).2 ?_), fun h => ⟨fun h2 => ⟨fun h3 => bad fun q => h3 ((nodeOk_none h h2).1 q), fun h3 => step ((nodeOk_none h h2).2 h3)⟩, fun h2 => ⟨fun h3 => ⟨h3, h3.1.2, h3.2⟩, fun h3 => bad fun q => ?_, fun h3 => ⟨⟨h3.1.1.2, h3.1.2⟩, hr _ (getD_mem (by omega)), fun h4 => bad fun q => ?_, fun h4 => step ((nodeOk_some h h2).2 ⟨h3.1.1.1, ⟨h3.1.1.2, h3.1.2⟩, h3.2, h4⟩)⟩⟩⟩⟩
      · have e : src.toNat = j := by omega
        rw [e] at hsrc
        exact hsrc
      · obtain ⟨q1, ⟨q2, q2'⟩, q3, q4, q5⟩ := (nodeOk_some h h2).1 q
        rcases h3 with ((h3 | h3) | h3) | h3
        · rw [q1] at h3; cases h3
        · omega
        · omega
        · exact h3 q3
      · obtain ⟨q1, ⟨q2, q2'⟩, q3, q4, q5⟩ := (nodeOk_some h h2).1 q
        rcases h4 with h4 | h4
        · rw [q4] at h4; cases h4
        · exact h4 q5
    · simp only [hjl, reduceCtorEq, if_true, if_false, decide_true, decide_false, Bool.false_eq_true, true_imp_iff, not_true_eq_false, not_false_eq_true, false_imp_iff, and_false, false_and, or_false, false_or, eqf, eqt, bif_and, bif_or, Bool.not_not, Bool.not_eq_true', Bool.not_eq_false', Bool.or_eq_true, Bool.or_eq_false_iff, Bool.and_eq_true, Bool.and_eq_false_imp, decide_eq_true_eq, decide_eq_false_iff_not, bne_iff_ne, bne_eq_false_iff_eq, beq_iff_eq, beq_eq_false_iff_ne, ne_eq, Int.toNat_natCast, Int.not_lt, Int.not_le, ge_iff_le, gt_iff_lt, Int.natCast_nonneg, Int.ofNat_lt, imp_self, and_true, true_and, implies_true, Int.ofNat_inj, and_self, Classical.not_not]
      have hall' : ∀ i, i < L.length → nodeOk A src start hi L i = true := fun i hi => hall i (by omega)
      refine ⟨⟨hr, ⟨h0, h1, hL⟩, fun i hi h2 h3 => ?_⟩, (soundF_home hall').symm⟩
      obtain ⟨q1, q2, q3, q4, q5⟩ := (nodeOk_some h2 h3).1 (hall' i hi)
      refine ⟨byOk_iff.2 q2, fun q => ?_⟩
      unfold nextN at q
      rw [show ((i : Nat) : Int).toNat = i from Int.toNat_natCast i] at q
      rw [q] at q4
      cases q4
def entSoundR : Ent := ⟨43, .cons (.sl (.st (.cons (.int .i64) (.cons (.int .i64) (.cons (.sl (.int .i64)) (.sl (.int .i64))))))) (.cons (.int .i64) (.cons (.int .i64) (.cons .bool (.cons (.sl (.st (.cons (.int .i64) (.int .i64)))) .nil)))), .bool, false, none, fun x => (∀ a ∈ (x.1 : List DArc), 0 ≤ a.1 ∧ a.1 < List.length (α := DLab) x.2.2.2.2.1) ∧ 0 ≤ x.2.1 ∧ x.2.1 < List.length (α := DLab) x.2.2.2.2.1 ∧ List.length (α := DLab) x.2.2.2.2.1 ≤ 2000, fun x => soundF x.1 x.2.1 x.2.2.1 x.2.2.2.1 x.2.2.2.2.1⟩
def csSoR : List Ent := [entTimeR12, entRPass, entBackR] theorem hcsSoR (f : FuncId) : findEnt csSoR f = findEnt [entTimeR12, entRPass, entBackR] f := rfl
set_option maxHeartbeats 1000000 in
theorem conSoundR : Con Try.prog entSoundR := by
  refine con_is (C := csSoR) x43 (by kernel_rfl) (by simp [csSoR, conTimeR12, conRPass, conBackR]) fun x hx hf => ?_
  obtain ⟨(A : List DArc), (src : Int), (start : Int), (hi : Bool), (L : List DLab), _⟩ := x
  have hA : A.length ≤ 9223372036854775807 := hf.1.1
  obtain ⟨hr, h0, h1, hL⟩ := hx
  dsimp only at hr h0 h1 hL
  have h0 : (0 : Int) ≤ src := h0
  have h1 : src < (L.length : Int) := h1
  dsimp only [entSoundR, x43]; simp only [↓hcsSoR, entTimeR12, entRPass, entBackR, mapOf, keyOf', ↓leQ_mk, ↓xwp_icall, ↓backQ_n, ↓backQ_r, ↓backQ_e, afterI, entI, exI, oneAV, keepI, XO.reads, XA.slot, eqsx, eqd,  List.drop_zero, List.take_length, Int.toNat_zero, Int.toNat_natCast, List.set_cons_zero, List.set_cons_succ, ↓xwp_clean, tmG, cleanS, headT, numb, rensT, tmle, fastD, runR_true, runR_false, quiet, Eff.tch, ↓xwp_seq, ↓xwp_skip, ↓xwp_ret, ↓xwp_exit, ↓xwp_block, ↓xwp_loop, ↓xwp_reg, ↓xwp_cond, ↓thn_n, ↓thn_e, ↓thn_r, ↓XQ.seq, ↓XQ.blk, List.getElem?_cons_succ, List.getElem?_cons_zero, List.getElem?_nil, runT, stepT, gop, gcond, opg, pickx, boolOf, XOp.isPick, opx, stripL, strip, pur, XO.gv, XA.av, setT, appL, killL, effOk, ltAll, AV.locs, AV.locsL, OB.locs, look, enter, resAVs, binx, intBin, eqx, lenx, condOf, loadx, partOf, storex, splice, cellsOf, scatter, zeroAV, fieldx, faddrx, iaddrx, bounds, avInt, avIntK, avBool, extx, slicex, fillx, rowx, callx, callvx, fn1x, fn2x, findEnt, rdL, rdA, rdClo, rdCap, rd, rd1, rdAgg, rdPtr, rdc, rd1c, ofCst, proj, upd, appendx, srcx, freshEff, minx, Ty.isSt, Ty.size, Ty.scalar, Ty.dflt, cast?_self, List.map_cons, List.map_nil, List.getD_cons_zero, List.getD_cons_succ, List.length_cons, List.length_nil, List.cons_append, List.nil_append, List.append_nil, List.filter_cons, List.filter_nil, List.isEmpty_nil, List.isEmpty_cons, Option.map_some, Option.map_none, Option.bind_some, Option.isNone_none, Option.isNone_some, Bool.false_eq_true, if_true, if_false, ite_true, ite_false, Bool.and_true, Bool.true_and, Bool.and_false, Bool.false_and, and_true, true_and, and_self, not_true_eq_false, not_false_eq_true, imp_self, forall_const, true_imp_iff, implies_true, decide_true, decide_false, cond_true, cond_false, reduceCtorEq, List.find?_cons, List.find?_nil, beq_self_eq_true, List.drop_zero, List.take_zero, List.drop_succ_cons, List.take_succ_cons, Nat.reduceAdd, Nat.reduceSub, Nat.reduceMul, Nat.reduceLT, Nat.reduceLeDiff, Nat.reduceEqDiff, Nat.reduceBEq, Nat.reduceBNe, List.reduceReplicate, reduceIte, retQ, finish, resAll, resAV, freshIs, stepD, runD, okD, meet, reach, restr, inAll, effIn, headOf, puts, put1, keep, le', autoρ, tidy, renB, rens, ren1, asle, avles, avle, hple, oble, uniq, sub, locOk, assoc, disj, List.all_cons, List.all_nil, List.any_cons, List.any_nil, List.contains_nil, List.contains_cons, List.flatMap_cons, List.flatMap_nil, List.mem_cons, List.not_mem_nil, or_false, false_or, or_true, true_or, or_self, Bool.or_false, Bool.or_true, Bool.true_or, Bool.false_or, Bool.not_true, Bool.not_false, List.take_nil, List.drop_nil, eq_self, Option.some.injEq, false_and, and_false, ↓reduceIte]
  try simp only [reduceCtorEq, if_true, if_false, decide_true, decide_false, Bool.false_eq_true, true_imp_iff, not_true_eq_false, not_false_eq_true, false_imp_iff, and_false, false_and, or_false, false_or, eqf, eqt, bif_and, bif_or, Bool.not_not, Bool.not_eq_true', Bool.not_eq_false', Bool.or_eq_true, Bool.or_eq_false_iff, Bool.and_eq_true, Bool.and_eq_false_imp, decide_eq_true_eq, decide_eq_false_iff_not, bne_iff_ne, bne_eq_false_iff_eq, beq_iff_eq, beq_eq_false_iff_ne, ne_eq, Int.toNat_natCast, Int.not_lt, Int.not_le, ge_iff_le, gt_iff_lt, Int.natCast_nonneg, Int.ofNat_lt, imp_self, and_true, true_and, implies_true, Int.ofNat_inj, and_self, Classical.not_not]
  try dsimp only [Ty.den]
  refine XW_for 1000 x43_0d [] Nat (fun j => [(11, .val (.int .i64) (j : Int))]) (fun _ => []) (fun j => j ≤ L.length ∧ ∀ i, i < j → nodeOk A src start hi L i = true ∧ homeOk A src L i = true) (fun j => L.length - j) 0 ?_ ?_ ?_
  · dsimp only [x43_0d]; simp only [mapOf, keyOf', ↓leQ_mk, ↓xwp_icall, ↓backQ_n, ↓backQ_r, ↓backQ_e, afterI, entI, exI, oneAV, keepI, XO.reads, XA.slot, eqsx, eqd,  List.drop_zero, List.take_length, Int.toNat_zero, Int.toNat_natCast, List.set_cons_zero, List.set_cons_succ, ↓xwp_clean, tmG, cleanS, headT, numb, rensT, tmle, fastD, runR_true, runR_false, quiet, Eff.tch, ↓xwp_seq, ↓xwp_skip, ↓xwp_ret, ↓xwp_exit, ↓xwp_block, ↓xwp_loop, ↓xwp_reg, ↓xwp_cond, ↓thn_n, ↓thn_e, ↓thn_r, ↓XQ.seq, ↓XQ.blk, List.getElem?_cons_succ, List.getElem?_cons_zero, List.getElem?_nil, runT, stepT, gop, gcond, opg, pickx, boolOf, XOp.isPick, opx, stripL, strip, pur, XO.gv, XA.av, setT, appL, killL, effOk, ltAll, AV.locs, AV.locsL, OB.locs, look, enter, resAVs, binx, intBin, eqx, lenx, condOf, loadx, partOf, storex, splice, cellsOf, scatter, zeroAV, fieldx, faddrx, iaddrx, bounds, avInt, avIntK, avBool, extx, slicex, fillx, rowx, callx, callvx, fn1x, fn2x, findEnt, rdL, rdA, rdClo, rdCap, rd, rd1, rdAgg, rdPtr, rdc, rd1c, ofCst, proj, upd, appendx, srcx, freshEff, minx, Ty.isSt, Ty.size, Ty.scalar, Ty.dflt, cast?_self, List.map_cons, List.map_nil, List.getD_cons_zero, List.getD_cons_succ, List.length_cons, List.length_nil, List.cons_append, List.nil_append, List.append_nil, List.filter_cons, List.filter_nil, List.isEmpty_nil, List.isEmpty_cons, Option.map_some, Option.map_none, Option.bind_some, Option.isNone_none, Option.isNone_some, Bool.false_eq_true, if_true, if_false, ite_true, ite_false, Bool.and_true, Bool.true_and, Bool.and_false, Bool.false_and, and_true, true_and, and_self, not_true_eq_false, not_false_eq_true, imp_self, forall_const, true_imp_iff, implies_true, decide_true, decide_false, cond_true, cond_false, reduceCtorEq, List.find?_cons, List.find?_nil, beq_self_eq_true, List.drop_zero, List.take_zero, List.drop_succ_cons, List.take_succ_cons, Nat.reduceAdd, Nat.reduceSub, Nat.reduceMul, Nat.reduceLT, Nat.reduceLeDiff, Nat.reduceEqDiff, Nat.reduceBEq, Nat.reduceBNe, List.reduceReplicate, reduceIte, retQ, finish, resAll, resAV, freshIs, stepD, runD, okD, meet, reach, restr, inAll, effIn, headOf, puts, put1, keep, le', autoρ, tidy, renB, rens, ren1, asle, avles, avle, hple, oble, uniq, sub, locOk, assoc, disj, List.all_cons, List.all_nil, List.any_cons, List.any_nil, List.contains_nil, List.contains_cons, List.flatMap_cons, List.flatMap_nil, List.mem_cons, List.not_mem_nil, or_false, false_or, or_true, true_or, or_self, Bool.or_false, Bool.or_true, Bool.true_or, Bool.false_or, Bool.not_true, Bool.not_false, List.take_nil, List.drop_nil, eq_self, Option.some.injEq, false_and, and_false, ↓reduceIte]; try trivial
  · exact ⟨Nat.zero_le _, fun i hi => by omega⟩
  · rintro j ⟨hj, hall⟩
    dsimp only [x43_0, x43_0d]; simp only [↓hcsSoR, entTimeR12, entRPass, entBackR, mapOf, keyOf', ↓leQ_mk, ↓xwp_icall, ↓backQ_n, ↓backQ_r, ↓backQ_e, afterI, entI, exI, oneAV, keepI, XO.reads, XA.slot, eqsx, eqd,  List.drop_zero, List.take_length, Int.toNat_zero, Int.toNat_natCast, List.set_cons_zero, List.set_cons_succ, ↓xwp_clean, tmG, cleanS, headT, numb, rensT, tmle, fastD, runR_true, runR_false, quiet, Eff.tch, ↓xwp_seq, ↓xwp_skip, ↓xwp_ret, ↓xwp_exit, ↓xwp_block, ↓xwp_loop, ↓xwp_reg, ↓xwp_cond, ↓thn_n, ↓thn_e, ↓thn_r, ↓XQ.seq, ↓XQ.blk, List.getElem?_cons_succ, List.getElem?_cons_zero, List.getElem?_nil, runT, stepT, gop, gcond, opg, pickx, boolOf, XOp.isPick, opx, stripL, strip, pur, XO.gv, XA.av, setT, appL, killL, effOk, ltAll, AV.locs, AV.locsL, OB.locs, look, enter, resAVs, binx, intBin, eqx, lenx, condOf, loadx, partOf, storex, splice, cellsOf, scatter, zeroAV, fieldx, faddrx, iaddrx, bounds, avInt, avIntK, avBool, extx, slicex, fillx, rowx, callx, callvx, fn1x, fn2x, findEnt, rdL, rdA, rdClo, rdCap, rd, rd1, rdAgg, rdPtr, rdc, rd1c, ofCst, proj, upd, appendx, srcx, freshEff, minx, Ty.isSt, Ty.size, Ty.scalar, Ty.dflt, cast?_self, List.map_cons, List.map_nil, List.getD_cons_zero, List.getD_cons_succ, List.length_cons, List.length_nil, List.cons_append, List.nil_append, List.append_nil, List.filter_cons, List.filter_nil, List.isEmpty_nil, List.isEmpty_cons, Option.map_some, Option.map_none, Option.bind_some, Option.isNone_none, Option.isNone_some, Bool.false_eq_true, if_true, if_false, ite_true, ite_false, Bool.and_true, Bool.true_and, Bool.and_false, Bool.false_and, and_true, true_and, and_self, not_true_eq_false, not_false_eq_true, imp_self, forall_const, true_imp_iff, implies_true, decide_true, decide_false, cond_true, cond_false, reduceCtorEq, List.find?_cons, List.find?_nil, beq_self_eq_true, List.drop_zero, List.take_zero, List.drop_succ_cons, List.take_succ_cons, Nat.reduceAdd, Nat.reduceSub, Nat.reduceMul, Nat.reduceLT, Nat.reduceLeDiff, Nat.reduceEqDiff, Nat.reduceBEq, Nat.reduceBNe, List.reduceReplicate, reduceIte, retQ, finish, resAll, resAV, freshIs, stepD, runD, okD, meet, reach, restr, inAll, effIn, headOf, puts, put1, keep, le', autoρ, tidy, renB, rens, ren1, asle, avles, avle, hple, oble, uniq, sub, locOk, assoc, disj, List.all_cons, List.all_nil, List.any_cons, List.any_nil, List.contains_nil, List.contains_cons, List.flatMap_cons, List.flatMap_nil, List.mem_cons, List.not_mem_nil, or_false, false_or, or_true, true_or, or_self, Bool.or_false, Bool.or_true, Bool.true_or, Bool.false_or, Bool.not_true, Bool.not_false, List.take_nil, List.drop_nil, eq_self, Option.some.injEq, false_and, and_false, ↓reduceIte]
    by_cases hjl : j < L.length
    · have w2 : IntKind.i64.wrap ((j : Int) + 1) = ((j + 1 : Nat) : Int) := i64_in _ (by omega)
      simp only [hjl, w2, reduceCtorEq, if_true, if_false, decide_true, decide_false, Bool.false_eq_true, true_imp_iff, not_true_eq_false, not_false_eq_true, false_imp_iff, and_false, false_and, or_false, false_or, eqf, eqt, bif_and, bif_or, Bool.not_not, Bool.not_eq_true', Bool.not_eq_false', Bool.or_eq_true, Bool.or_eq_false_iff, Bool.and_eq_true, Bool.and_eq_false_imp, decide_eq_true_eq, decide_eq_false_iff_not, bne_iff_ne, bne_eq_false_iff_eq, beq_iff_eq, beq_eq_false_iff_ne, ne_eq, Int.toNat_natCast, Int.not_lt, Int.not_le, ge_iff_le, gt_iff_lt, Int.natCast_nonneg, Int.ofNat_lt, imp_self, and_true, true_and, implies_true, Int.ofNat_inj, and_self, Classical.not_not]
      have step : nodeOk A src start hi L j = true → homeOk A src L j = true → ∃ x', L.length - x' < L.length - j ∧ (x' ≤ L.length ∧ ∀ i, i < x' → nodeOk A src start hi L i = true ∧ homeOk A src L i = true) ∧ j + 1 = x' := fun h h' => ⟨j + 1, by omega, ⟨by omega, fun i hi => by
        by_cases c : i = j
        · subst c; exact ⟨h, h'⟩
        · exact hall i (by omega)⟩, rfl⟩
      have bad : ¬ (nodeOk A src start hi L j = true ∧ homeOk A src L j = true) → false = soundF A src start hi L := fun h => by
        symm
        unfold soundF
        rw [List.all_eq_false]
        exact ⟨j, List.mem_range.2 hjl, by rw [Bool.and_eq_true]; exact h⟩
      refine ⟨fun h => ⟨fun h2 => bad fun q => ?_, fun h2 => step ((nodeOk_src h).2 h2) ?_⟩, fun h => ⟨fun h2 => ⟨fun h3 => bad fun q => h3 ((nodeOk_none h h2).1 q.1), fun h3 => step ((nodeOk_none h h2).2 h3) ?_⟩,
        fun h2 => ⟨fun h3 => bad fun q => ?_, fun h3 => ⟨⟨h3.1.2, h3.2⟩, ⟨fun h4 => ⟨h4, hr _ (getD_mem (by omega))⟩, fun h4 => ⟨h4, hr _ (getD_mem (by omega))⟩, fun h4 => ⟨h4, by refine ⟨hr, ?_⟩; simp only [hL, and_true]⟩⟩, fun h4 => bad fun q => ?_, fun h4 => step ((nodeOk_some h h2).2 ⟨h3.1.1, ⟨h3.1.2, h3.2⟩, h4.1.1.1, h4.1.1.2, h4.1.2⟩) ?_⟩⟩⟩⟩
      · obtain ⟨q1, q2⟩ := (nodeOk_src h).1 q.1
        rcases h2 with h2 | h2
        · exact h2 q1
        · exact h2 q2
      · unfold homeOk
        rw [h, backN, if_pos rfl, Bool.or_true]
      · unfold homeOk
        rw [decide_eq_true h2]; rfl
      · obtain ⟨q1, ⟨q2, q2'⟩, q3, q4, q5⟩ := (nodeOk_some h h2).1 q.1
        rcases h3 with (h3 | h3) | h3
        · rw [q1] at h3; cases h3
        · omega
        · omega
      · obtain ⟨q1, ⟨q2, q2'⟩, q3, q4, q5⟩ := (nodeOk_some h h2).1 q.1
        rcases h4 with ((h4 | h4) | h4) | h4
        · exact h4 q3
        · rw [q4] at h4; cases h4
        · exact h4 q5
        · have := q.2
          unfold homeOk at this
          rw [h4, decide_eq_false h2] at this
          cases this
      · unfold homeOk
        rw [h4.2, Bool.or_true]
    · simp only [hjl, reduceCtorEq, if_true, if_false, decide_true, decide_false, Bool.false_eq_true, true_imp_iff, not_true_eq_false, not_false_eq_true, false_imp_iff, and_false, false_and, or_false, false_or, eqf, eqt, bif_and, bif_or, Bool.not_not, Bool.not_eq_true', Bool.not_eq_false', Bool.or_eq_true, Bool.or_eq_false_iff, Bool.and_eq_true, Bool.and_eq_false_imp, decide_eq_true_eq, decide_eq_false_iff_not, bne_iff_ne, bne_eq_false_iff_eq, beq_iff_eq, beq_eq_false_iff_ne, ne_eq, Int.toNat_natCast, Int.not_lt, Int.not_le, ge_iff_le, gt_iff_lt, Int.natCast_nonneg, Int.ofNat_lt, imp_self, and_true, true_and, implies_true, Int.ofNat_inj, and_self, Classical.not_not]
      symm
      unfold soundF
      rw [all_range]
      intro i hi
      rw [(hall i (by omega)).1, (hall i (by omega)).2]; rfl
end T
end Go.Proofs.Ytcjgofcfinbpeaa
