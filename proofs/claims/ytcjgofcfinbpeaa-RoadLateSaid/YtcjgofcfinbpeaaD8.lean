/- Searches on roads: the reference's ways. -/
import Derived.Test.YtcjgofcfinbpeaaD7
namespace Go.Proofs.Ytcjgofcfinbpeaa
set_option linter.unusedVariables false
set_option linter.unusedSimpArgs false
open Go.RowKit Go.IntWalk
namespace T
def entRWay : Ent := ⟨29, .cons (.sl (.st (.cons (.int .i64) (.int .i64)))) (.cons (.sl (.st (.cons (.int .i64) (.cons (.int .i64) (.cons (.sl (.int .i64)) (.sl (.int .i64))))))) (.cons (.int .i64) .nil)), (.sl (.int .i64)), false, none, fun x => List.length (α := DLab) x.1 ≤ 100000, fun x => wayF x.1 x.2.1 x.2.2.1⟩
/-- The reference's way from a round on. -/
def wayR (L : List DLab) (A : List DArc) (to : Int) (out : List Int) : List Int := if to < 0 ∨ L.length ≤ to ∨ out = [] ∧ (L.getD to.toNat (0, 0)).1 = -1 then [] else wayGo L A (L.length - out.length) to out
def csRw : List Ent := [] theorem hcsRw (f : FuncId) : findEnt csRw f = findEnt [] f := rfl
theorem conRWay : Con Try.prog entRWay := by
  refine con_is (C := csRw) x29 (by kernel_rfl) (by simp [csRw]) fun x hx hf => ?_
  obtain ⟨(L : List DLab), (A : List DArc), (to : Int), _⟩ := x
  dsimp only [entRWay, x29]; simp only [↓hcsRw, nilOf, ↓xwp_top, slicey, oslx, copyx, srcx, ↓xwp_dead, ↓xwp_rfor, ↓xwp_yld, ↓rndA_n, ↓rndB_n, rndA_x, rndB_x, rndA_r, rndB_r, ↓backR_n, ↓backR_r, backR_e, ↓hasLp_mk, setLp, entY, entR, ylOf, List.zip_cons_cons, List.zip_nil_left, List.zip_nil_right, mapOf, keyOf', ↓leQ_mk, ↓xwp_icall, ↓backQ_n, ↓backQ_r, ↓backQ_e, afterI, entI, exI, oneAV, keepI, XO.reads, XA.slot, eqsx, eqd,  List.drop_zero, List.take_length, Int.toNat_zero, Int.toNat_natCast, List.set_cons_zero, List.set_cons_succ, ↓xwp_clean, tmG, cleanS, headT, numb, rensT, tmle, fastD, runR_true, runR_false, quiet, Eff.tch, ↓xwp_seq, ↓xwp_skip, ↓xwp_ret, ↓xwp_exit, ↓xwp_block, ↓xwp_loop, ↓xwp_reg, ↓xwp_cond, ↓thn_n, ↓thn_e, ↓thn_r, ↓XQ.seq, ↓XQ.blk, List.getElem?_cons_succ, List.getElem?_cons_zero, List.getElem?_nil, runT, stepT, gop, gcond, opg, pickx, boolOf, XOp.isPick, opx, stripL, strip, pur, XO.gv, XA.av, setT, appL, killL, effOk, ltAll, AV.locs, AV.locsL, OB.locs, look, enter, resAVs, binx, intBin, eqx, lenx, condOf, loadx, partOf, storex, splice, cellsOf, scatter, zeroAV, fieldx, faddrx, iaddrx, bounds, avInt, avIntK, avBool, extx, slicex, fillx, rowx, callx, callvx, fn1x, fn2x, findEnt, rdL, rdA, rdClo, rdCap, rd, rd1, rdAgg, rdPtr, rdc, rd1c, ofCst, proj, upd, appendx, srcx, freshEff, minx, Ty.isSt, Ty.size, Ty.scalar, Ty.dflt, cast?_self, List.map_cons, List.map_nil, List.getD_cons_zero, List.getD_cons_succ, List.length_cons, List.length_nil, List.cons_append, List.nil_append, List.append_nil, List.filter_cons, List.filter_nil, List.isEmpty_nil, List.isEmpty_cons, Option.map_some, Option.map_none, Option.bind_some, Option.isNone_none, Option.isNone_some, Bool.false_eq_true, if_true, if_false, ite_true, ite_false, Bool.and_true, Bool.true_and, Bool.and_false, Bool.false_and, and_true, true_and, and_self, not_true_eq_false, not_false_eq_true, imp_self, forall_const, true_imp_iff, implies_true, decide_true, decide_false, cond_true, cond_false, reduceCtorEq, List.find?_cons, List.find?_nil, beq_self_eq_true, List.drop_zero, List.take_zero, List.drop_succ_cons, List.take_succ_cons, Nat.reduceAdd, Nat.reduceSub, Nat.reduceMul, Nat.reduceLT, Nat.reduceLeDiff, Nat.reduceEqDiff, Nat.reduceBEq, Nat.reduceBNe, List.reduceReplicate, reduceIte, retQ, finish, resAll, resAV, freshIs, stepD, runD, okD, meet, reach, reachO, restr, inAll, effIn, headOf, puts, put1, keep, le', autoρ, tidy, renB, rens, ren1, asle, avles, avle, hple, oble, uniq, sub, locOk, assoc, disj, List.all_cons, List.all_nil, List.any_cons, List.any_nil, List.contains_nil, List.contains_cons, List.flatMap_cons, List.flatMap_nil, List.mem_cons, List.not_mem_nil, or_false, false_or, or_true, true_or, or_self, Bool.or_false, Bool.or_true, Bool.true_or, Bool.false_or, Bool.not_true, Bool.not_false, List.take_nil, List.drop_nil, eq_self, Option.some.injEq, false_and, and_false, ↓reduceIte]
  try simp only [reduceCtorEq, if_true, if_false, decide_true, decide_false, Bool.false_eq_true, true_imp_iff, not_true_eq_false, not_false_eq_true, false_imp_iff, and_false, false_and, or_false, false_or, eqf, eqt, bif_and, bif_or, Bool.not_not, Bool.not_eq_true', Bool.not_eq_false', Bool.or_eq_true, Bool.or_eq_false_iff, Bool.and_eq_true, Bool.and_eq_false_imp, decide_eq_true_eq, decide_eq_false_iff_not, bne_iff_ne, bne_eq_false_iff_eq, beq_iff_eq, beq_eq_false_iff_ne, ne_eq, Int.toNat_natCast, Int.not_lt, Int.not_le, ge_iff_le, gt_iff_lt, Int.natCast_nonneg, Int.ofNat_lt, imp_self, and_true, true_and, implies_true, Int.ofNat_inj, and_self, Classical.not_not]
  try dsimp only [Ty.den]
  have hLl : L.length ≤ 100000 := hx
  have e0 : wayF L A to = wayR L A to [] := by unfold wayF wayR; simp
  rw [e0]
  refine XW_for 1000 x29_0d [1] (List Int × Int) (fun s => [(7, .own 1), (2, .val (.int .i64) s.2)]) (fun s => [(1, .row 3 (.int .i64) s.1)])
    (fun s => s.1.length ≤ L.length ∧ wayR L A s.2 s.1 = wayR L A to []) (fun s => L.length - s.1.length) ([], to) ?_ ?_ ?_
  · dsimp only [x29_0d]
    simp only [nilOf, ↓xwp_top, slicey, oslx, copyx, srcx, ↓xwp_dead, ↓xwp_rfor, ↓xwp_yld, ↓rndA_n, ↓rndB_n, rndA_x, rndB_x, rndA_r, rndB_r, ↓backR_n, ↓backR_r, backR_e, ↓hasLp_mk, setLp, entY, entR, ylOf, List.zip_cons_cons, List.zip_nil_left, List.zip_nil_right, mapOf, keyOf', ↓leQ_mk, ↓xwp_icall, ↓backQ_n, ↓backQ_r, ↓backQ_e, afterI, entI, exI, oneAV, keepI, XO.reads, XA.slot, eqsx, eqd,  List.drop_zero, List.take_length, Int.toNat_zero, Int.toNat_natCast, List.set_cons_zero, List.set_cons_succ, ↓xwp_clean, tmG, cleanS, headT, numb, rensT, tmle, fastD, runR_true, runR_false, quiet, Eff.tch, ↓xwp_seq, ↓xwp_skip, ↓xwp_ret, ↓xwp_exit, ↓xwp_block, ↓xwp_loop, ↓xwp_reg, ↓xwp_cond, ↓thn_n, ↓thn_e, ↓thn_r, ↓XQ.seq, ↓XQ.blk, List.getElem?_cons_succ, List.getElem?_cons_zero, List.getElem?_nil, runT, stepT, gop, gcond, opg, pickx, boolOf, XOp.isPick, opx, stripL, strip, pur, XO.gv, XA.av, setT, appL, killL, effOk, ltAll, AV.locs, AV.locsL, OB.locs, look, enter, resAVs, binx, intBin, eqx, lenx, condOf, loadx, partOf, storex, splice, cellsOf, scatter, zeroAV, fieldx, faddrx, iaddrx, bounds, avInt, avIntK, avBool, extx, slicex, fillx, rowx, callx, callvx, fn1x, fn2x, findEnt, rdL, rdA, rdClo, rdCap, rd, rd1, rdAgg, rdPtr, rdc, rd1c, ofCst, proj, upd, appendx, srcx, freshEff, minx, Ty.isSt, Ty.size, Ty.scalar, Ty.dflt, cast?_self, List.map_cons, List.map_nil, List.getD_cons_zero, List.getD_cons_succ, List.length_cons, List.length_nil, List.cons_append, List.nil_append, List.append_nil, List.filter_cons, List.filter_nil, List.isEmpty_nil, List.isEmpty_cons, Option.map_some, Option.map_none, Option.bind_some, Option.isNone_none, Option.isNone_some, Bool.false_eq_true, if_true, if_false, ite_true, ite_false, Bool.and_true, Bool.true_and, Bool.and_false, Bool.false_and, and_true, true_and, and_self, not_true_eq_false, not_false_eq_true, imp_self, forall_const, true_imp_iff, implies_true, decide_true, decide_false, cond_true, cond_false, reduceCtorEq, List.find?_cons, List.find?_nil, beq_self_eq_true, List.drop_zero, List.take_zero, List.drop_succ_cons, List.take_succ_cons, Nat.reduceAdd, Nat.reduceSub, Nat.reduceMul, Nat.reduceLT, Nat.reduceLeDiff, Nat.reduceEqDiff, Nat.reduceBEq, Nat.reduceBNe, List.reduceReplicate, reduceIte, retQ, finish, resAll, resAV, freshIs, stepD, runD, okD, meet, reach, reachO, restr, inAll, effIn, headOf, puts, put1, keep, le', autoρ, tidy, renB, rens, ren1, asle, avles, avle, hple, oble, uniq, sub, locOk, assoc, disj, List.all_cons, List.all_nil, List.any_cons, List.any_nil, List.contains_nil, List.contains_cons, List.flatMap_cons, List.flatMap_nil, List.mem_cons, List.not_mem_nil, or_false, false_or, or_true, true_or, or_self, Bool.or_false, Bool.or_true, Bool.true_or, Bool.false_or, Bool.not_true, Bool.not_false, List.take_nil, List.drop_nil, eq_self, Option.some.injEq, false_and, and_false, ↓reduceIte]
  · exact ⟨Nat.zero_le _, rfl⟩
  · rintro ⟨out, to'⟩ ⟨hl, hgo⟩
    dsimp only at hl hgo
    dsimp only [x29_0, x29_0d]
    simp only [↓hcsRw, nilOf, ↓xwp_top, slicey, oslx, copyx, srcx, ↓xwp_dead, ↓xwp_rfor, ↓xwp_yld, ↓rndA_n, ↓rndB_n, rndA_x, rndB_x, rndA_r, rndB_r, ↓backR_n, ↓backR_r, backR_e, ↓hasLp_mk, setLp, entY, entR, ylOf, List.zip_cons_cons, List.zip_nil_left, List.zip_nil_right, mapOf, keyOf', ↓leQ_mk, ↓xwp_icall, ↓backQ_n, ↓backQ_r, ↓backQ_e, afterI, entI, exI, oneAV, keepI, XO.reads, XA.slot, eqsx, eqd,  List.drop_zero, List.take_length, Int.toNat_zero, Int.toNat_natCast, List.set_cons_zero, List.set_cons_succ, ↓xwp_clean, tmG, cleanS, headT, numb, rensT, tmle, fastD, runR_true, runR_false, quiet, Eff.tch, ↓xwp_seq, ↓xwp_skip, ↓xwp_ret, ↓xwp_exit, ↓xwp_block, ↓xwp_loop, ↓xwp_reg, ↓xwp_cond, ↓thn_n, ↓thn_e, ↓thn_r, ↓XQ.seq, ↓XQ.blk, List.getElem?_cons_succ, List.getElem?_cons_zero, List.getElem?_nil, runT, stepT, gop, gcond, opg, pickx, boolOf, XOp.isPick, opx, stripL, strip, pur, XO.gv, XA.av, setT, appL, killL, effOk, ltAll, AV.locs, AV.locsL, OB.locs, look, enter, resAVs, binx, intBin, eqx, lenx, condOf, loadx, partOf, storex, splice, cellsOf, scatter, zeroAV, fieldx, faddrx, iaddrx, bounds, avInt, avIntK, avBool, extx, slicex, fillx, rowx, callx, callvx, fn1x, fn2x, findEnt, rdL, rdA, rdClo, rdCap, rd, rd1, rdAgg, rdPtr, rdc, rd1c, ofCst, proj, upd, appendx, srcx, freshEff, minx, Ty.isSt, Ty.size, Ty.scalar, Ty.dflt, cast?_self, List.map_cons, List.map_nil, List.getD_cons_zero, List.getD_cons_succ, List.length_cons, List.length_nil, List.cons_append, List.nil_append, List.append_nil, List.filter_cons, List.filter_nil, List.isEmpty_nil, List.isEmpty_cons, Option.map_some, Option.map_none, Option.bind_some, Option.isNone_none, Option.isNone_some, Bool.false_eq_true, if_true, if_false, ite_true, ite_false, Bool.and_true, Bool.true_and, Bool.and_false, Bool.false_and, and_true, true_and, and_self, not_true_eq_false, not_false_eq_true, imp_self, forall_const, true_imp_iff, implies_true, decide_true, decide_false, cond_true, cond_false, reduceCtorEq, List.find?_cons, List.find?_nil, beq_self_eq_true, List.drop_zero, List.take_zero, List.drop_succ_cons, List.take_succ_cons, Nat.reduceAdd, Nat.reduceSub, Nat.reduceMul, Nat.reduceLT, Nat.reduceLeDiff, Nat.reduceEqDiff, Nat.reduceBEq, Nat.reduceBNe, List.reduceReplicate, reduceIte, retQ, finish, resAll, resAV, freshIs, stepD, runD, okD, meet, reach, reachO, restr, inAll, effIn, headOf, puts, put1, keep, le', autoρ, tidy, renB, rens, ren1, asle, avles, avle, hple, oble, uniq, sub, locOk, assoc, disj, List.all_cons, List.all_nil, List.any_cons, List.any_nil, List.contains_nil, List.contains_cons, List.flatMap_cons, List.flatMap_nil, List.mem_cons, List.not_mem_nil, or_false, false_or, or_true, true_or, or_self, Bool.or_false, Bool.or_true, Bool.true_or, Bool.false_or, Bool.not_true, Bool.not_false, List.take_nil, List.drop_nil, eq_self, Option.some.injEq, false_and, and_false, ↓reduceIte]
    try simp only [reduceCtorEq, if_true, if_false, decide_true, decide_false, Bool.false_eq_true, true_imp_iff, not_true_eq_false, not_false_eq_true, false_imp_iff, and_false, false_and, or_false, false_or, eqf, eqt, bif_and, bif_or, Bool.not_not, Bool.not_eq_true', Bool.not_eq_false', Bool.or_eq_true, Bool.or_eq_false_iff, Bool.and_eq_true, Bool.and_eq_false_imp, decide_eq_true_eq, decide_eq_false_iff_not, bne_iff_ne, bne_eq_false_iff_eq, beq_iff_eq, beq_eq_false_iff_ne, ne_eq, Int.toNat_natCast, Int.not_lt, Int.not_le, ge_iff_le, gt_iff_lt, Int.natCast_nonneg, Int.ofNat_lt, imp_self, and_true, true_and, implies_true, Int.ofNat_inj, and_self, Classical.not_not]
    have go : 0 ≤ to' ∧ to' < L.length → (((out.length : Int) = 0 → ¬(L.getD to'.toNat (0, 0)).1 = -1)) → wayR L A to [] = wayGo L A (L.length - out.length) to' out := by
      intro h1 h2
      rw [← hgo, wayR, if_neg]
      rintro (h3 | h3 | ⟨h3, h4⟩)
      · omega
      · omega
      · exact h2 (by rw [h3]; rfl) h4
    refine ⟨fun h => ?_, fun h => ⟨h.1, fun h1 => ?_, fun h1 => ⟨fun h2 => ?_, fun h2 => ⟨fun h3 => ?_, fun h3 => ⟨h3.1, fun h4 => ?_, fun h4 => ⟨by omega, h3.1, ((L.getD to'.toNat (0, 0)).2 :: out, (A.getD (L.getD to'.toNat (0, 0)).2.toNat (0, 0, [], [])).1), ?_, ⟨?_, ?_⟩, rfl, rfl⟩⟩⟩⟩⟩⟩
    · rw [← hgo, wayR, if_pos]
      rcases h with (h | h) | h
      · exact .inl h
      · exact .inr (.inl h)
      · omega
    · rw [← hgo, wayR, if_pos (.inr (.inr ⟨List.length_eq_zero_iff.1 (Int.ofNat_inj.1 h1.1), h1.2⟩))]
    · rw [go h.1 h1]
      cases L.length - out.length <;> rw [wayGo, if_pos h2]
    · rw [go h.1 h1]
      by_cases c : out.length = L.length
      · rw [c, Nat.sub_self, wayGo, if_neg h2]
      · obtain ⟨f, hf⟩ : ∃ f, L.length - out.length = f + 1 := ⟨L.length - out.length - 1, by omega⟩
        rw [hf, wayGo, if_neg h2, if_pos]
        rcases h3 with (h3 | h3) | h3
        · exact .inl h3
        · exact .inr (.inl h3)
        · exact absurd h3 c
    · rw [go h.1 h1]
      obtain ⟨f, hf⟩ : ∃ f, L.length - out.length = f + 1 := ⟨L.length - out.length - 1, by omega⟩
      rw [hf, wayGo, if_neg h2, if_pos (.inr (.inr (.inl h4)))]
    · dsimp only [List.length_cons]; omega
    · dsimp only [List.length_cons]; omega
    · rw [go h.1 h1]
      obtain ⟨f, hf⟩ : ∃ f, L.length - out.length = f + 1 := ⟨L.length - out.length - 1, by omega⟩
      dsimp only
      rw [hf, wayGo, if_neg h2, wayR, List.length_cons, show L.length - (out.length + 1) = f by omega]
      by_cases c : (A.getD (L.getD to'.toNat (0, 0)).2.toNat (0, 0, [], [])).1 < 0 ∨ L.length ≤ (A.getD (L.getD to'.toNat (0, 0)).2.toNat (0, 0, [], [])).1
      · rw [if_pos (c.elim .inl (fun c => .inr (.inl c))), if_pos (c.elim (fun c => .inr (.inr (.inr (.inl c)))) (fun c => .inr (.inr (.inr (.inr c)))))]
      · rw [not_or] at c
        have n1 : ¬ (L.getD to'.toNat (0, 0)).2 < 0 := Int.not_lt.2 h3.1.1
        have n2 : ¬ (A.length : Int) ≤ (L.getD to'.toNat (0, 0)).2 := Int.not_le.2 h3.1.2
        rw [if_neg (fun q => q.elim c.1 (fun q => q.elim c.2 (fun q => List.cons_ne_nil _ _ q.1))), if_neg (fun q => q.elim n1 (fun q => q.elim n2 (fun q => q.elim (fun q => q h4) (fun q => q.elim c.1 c.2))))]
end T
end Go.Proofs.Ytcjgofcfinbpeaa
