/- OdoLater, by the typed walk. -/
import Derived.Test.YtbbjopgneophnaaO4
namespace Go.Proofs.Ytbbjopgneophnaa
set_option linter.unusedVariables false
set_option linter.unusedSimpArgs false
open Go.RowKit Go.IntWalk T
theorem earliestF_err {n : Int} {A : List DArc} {d : DDrv} {to : Int} (h : ¬ (rightR n A = true ∧ (0 ≤ d.2.1 ∧ d.2.1 < n) ∧ (0 ≤ d.1 ∧ d.1 ≤ 1048576) ∧ 0 ≤ to ∧ to < n)) : earliestF n A d to = (0, 1, ()) := by
  unfold earliestF
  by_cases c : (earlyF n A d.2.1 d.1 false).2.1 = 0
  · rw [if_pos]
    right
    have hf := earlyF_facts c
    have hc : (rightR n A && (decide (0 ≤ d.2.1) && (decide (d.2.1 < n) && timeB d.1))) = true := by
      cases hq : rightR n A && (decide (0 ≤ d.2.1) && (decide (d.2.1 < n) && timeB d.1)) with
      | true => rfl
      | false =>
        have : earlyF n A d.2.1 d.1 false = ([], 1, ()) := by unfold earlyF; rw [if_pos hq]
        rw [this] at c
        exact absurd c (by decide)
    rw [Bool.and_eq_true, Bool.and_eq_true, Bool.and_eq_true, decide_eq_true_iff, decide_eq_true_iff, timeB_iff] at hc
    by_cases c1 : to < 0
    · exact .inl c1
    · right
      rw [hf.1]
      by_cases c2 : to < n
      · exact absurd ⟨hc.1, ⟨hc.2.1, hc.2.2.1⟩, hc.2.2.2, by omega, c2⟩ h
      · omega
  · rw [if_pos (.inl c)]
/-- A later drive. -/
theorem earliest_later {n : Int} {A : List DArc} {t v o to b : Int} (hn : n ≤ 12 ∨ 2000 < n) (h0 : 0 ≤ t) (h1 : t ≤ 100000) (hb : 0 ≤ b ∧ b ≤ 255) :
    (earliestF n A (t, v, o) to).2.1 = (earliestF n A (t + b, v, o) to).2.1 ∧
    ((earliestF n A (t, v, o) to).2.1 = 0 → t ≤ (earliestF n A (t, v, o) to).1 ∧ (earliestF n A (t, v, o) to).1 ≤ (earliestF n A (t + b, v, o) to).1 ∧ t + b ≤ (earliestF n A (t + b, v, o) to).1 ∧ (to = v → (earliestF n A (t, v, o) to).1 = t)) := by
  by_cases c : rightR n A = true ∧ (0 ≤ v ∧ v < n) ∧ 0 ≤ to ∧ to < n
  · obtain ⟨hr, hv, hto⟩ := c
    obtain ⟨⟨n1, n2⟩, _, _⟩ := rightR_all hr
    obtain ⟨n, rfl⟩ : ∃ m : Nat, n = m := ⟨n.toNat, by omega⟩
    obtain ⟨to, rfl⟩ : ∃ m : Nat, to = m := ⟨to.toNat, by omega⟩
    obtain ⟨v, rfl⟩ : ∃ m : Nat, v = m := ⟨v.toNat, by omega⟩
    have E : ∀ s : Int, 0 ≤ s → s ≤ 1048576 → ∃ R, Found false (moveE A false) A.length n v s R ∧ earliestF n A (s, (v : Int), o) to = if (R.getD to (0, 0)).1 < 0 then (0, 4, ()) else ((R.getD to (0, 0)).1, 0, ()) := fun s s0 s1 => by
      obtain ⟨R, eR, F⟩ := earlyF_ok (hi := false) (src := v) (start := s) hr (by omega) (timeB_iff.2 ⟨s0, s1⟩)
      refine ⟨R, F, ?_⟩
      have hL := F.hL
      unfold earliestF
      rw [show earlyF n A ((s, (v : Int), o) : DDrv).2.1 ((s, (v : Int), o) : DDrv).1 false = _ from eR, if_neg]
      · rfl
      · rintro (q | q | q)
        · exact q rfl
        · omega
        · have q' : (R.length : Int) ≤ (to : Int) := q
          omega
    obtain ⟨R, F, e⟩ := E t h0 (by omega)
    obtain ⟨R', F', e'⟩ := E (t + b) (by omega) (by omega)
    rw [e, e']
    have k1 := found_ge hr F to (by omega)
    have k2 := found_ge hr F' to (by omega)
    have k3 := found_late hr F F' (by omega) (by omega) to (by omega)
    have k4 := early_via hr F F' (by rw [F.src]; exact ⟨h0, by show t ≤ t + b; omega⟩) to (by omega)
    have k5 : (to : Int) = v → (R.getD to (0, 0)).1 = t := fun q => by
      have : to = v := by omega
      rw [this, F.src]
    generalize (R.getD to (0, 0)).1 = x at *
    generalize (R'.getD to (0, 0)).1 = y at *
    by_cases c : x < 0
    · have c' : y < 0 := by
        by_cases q : y < 0
        · exact q
        · have := k4 (by omega); omega
      rw [if_pos c, if_pos c']
      exact ⟨rfl, fun q => absurd (show (4 : Int) = 0 from q) (by decide)⟩
    · have c' := k3 (by omega)
      rw [if_neg c, if_neg (by omega)]
      have := k4 c'
      exact ⟨rfl, fun _ => ⟨k1 (by omega), this.2, k2 c', k5⟩⟩
  · have e : ∀ s : Int, earliestF n A (s, v, o) to = (0, 1, ()) := fun s => earliestF_err fun q => c ⟨q.1, q.2.1, q.2.2.2⟩
    rw [e, e]
    exact ⟨rfl, fun q => absurd (show (1 : Int) = 0 from q) (by decide)⟩
namespace T
def entOLater : Ent := ⟨6, .cons (.int .i64) (.cons (.sl (.st (.cons (.int .i64) (.cons (.int .i64) (.cons (.sl (.int .i64)) (.sl (.int .i64))))))) (.cons (.st (.cons (.int .i64) (.cons (.int .i64) (.int .i64)))) (.cons (.int .i64) (.cons (.int .u8) .nil)))), .bool, false, none, fun _ => True, fun _ => true⟩
def csOl : List Ent := [entSmall45, entFew11, entEarliest] theorem hcsOl (f : FuncId) : findEnt csOl f = findEnt [entSmall45, entFew11, entEarliest] f := rfl
theorem conOLater : Con Try.prog entOLater := by
  refine con_is (C := csOl) x6 (by kernel_rfl) (by simp [csOl, conSmall45, conFew11, conEarliest]) fun x hx hf => ?_
  obtain ⟨(n : Int), (A : List DArc), ⟨(t : Int), (v : Int), (o : Int)⟩, (to : Int), (b : Int), _⟩ := x
  have hb : 0 ≤ b ∧ b ≤ 255 := hf.2.2.2.2.1
  dsimp only [entOLater, x6]; simp only [↓hcsOl, entSmall45, entFew11, entEarliest, nilOf, ↓xwp_top, slicey, oslx, copyx, srcx, ↓xwp_dead, ↓xwp_rfor, ↓xwp_yld, ↓rndA_n, ↓rndB_n, rndA_x, rndB_x, rndA_r, rndB_r, ↓backR_n, ↓backR_r, backR_e, ↓hasLp_mk, setLp, entY, entR, ylOf, List.zip_cons_cons, List.zip_nil_left, List.zip_nil_right, mapOf, keyOf', ↓leQ_mk, ↓xwp_icall, ↓backQ_n, ↓backQ_r, ↓backQ_e, afterI, entI, exI, oneAV, keepI, XO.reads, XA.slot, eqsx, eqd,  List.drop_zero, List.take_length, Int.toNat_zero, Int.toNat_natCast, List.set_cons_zero, List.set_cons_succ, ↓xwp_clean, tmG, cleanS, headT, numb, rensT, tmle, fastD, runR_true, runR_false, quiet, Eff.tch, ↓xwp_seq, ↓xwp_skip, ↓xwp_ret, ↓xwp_exit, ↓xwp_block, ↓xwp_loop, ↓xwp_reg, ↓xwp_cond, ↓thn_n, ↓thn_e, ↓thn_r, ↓XQ.seq, ↓XQ.blk, List.getElem?_cons_succ, List.getElem?_cons_zero, List.getElem?_nil, runT, stepT, gop, gcond, opg, pickx, boolOf, XOp.isPick, opx, stripL, strip, pur, XO.gv, XA.av, setT, appL, killL, effOk, ltAll, AV.locs, AV.locsL, OB.locs, look, enter, resAVs, binx, intBin, eqx, lenx, condOf, loadx, partOf, storex, splice, cellsOf, scatter, zeroAV, fieldx, faddrx, iaddrx, bounds, avInt, avIntK, avBool, extx, slicex, fillx, rowx, callx, callvx, fn1x, fn2x, findEnt, rdL, rdA, rdClo, rdCap, rd, rd1, rdAgg, rdPtr, rdc, rd1c, ofCst, proj, upd, appendx, srcx, freshEff, minx, Ty.isSt, Ty.size, Ty.scalar, Ty.dflt, cast?_self, List.map_cons, List.map_nil, List.getD_cons_zero, List.getD_cons_succ, List.length_cons, List.length_nil, List.cons_append, List.nil_append, List.append_nil, List.filter_cons, List.filter_nil, List.isEmpty_nil, List.isEmpty_cons, Option.map_some, Option.map_none, Option.bind_some, Option.isNone_none, Option.isNone_some, Bool.false_eq_true, if_true, if_false, ite_true, ite_false, Bool.and_true, Bool.true_and, Bool.and_false, Bool.false_and, and_true, true_and, and_self, not_true_eq_false, not_false_eq_true, imp_self, forall_const, true_imp_iff, implies_true, decide_true, decide_false, cond_true, cond_false, reduceCtorEq, List.find?_cons, List.find?_nil, beq_self_eq_true, List.drop_zero, List.take_zero, List.drop_succ_cons, List.take_succ_cons, Nat.reduceAdd, Nat.reduceSub, Nat.reduceMul, Nat.reduceLT, Nat.reduceLeDiff, Nat.reduceEqDiff, Nat.reduceBEq, Nat.reduceBNe, List.reduceReplicate, reduceIte, retQ, finish, resAll, resAV, freshIs, stepD, runD, okD, meet, reach, reachO, restr, inAll, effIn, headOf, puts, put1, keep, le', autoρ, tidy, renB, rens, ren1, asle, avles, avle, hple, oble, uniq, sub, locOk, assoc, disj, List.all_cons, List.all_nil, List.any_cons, List.any_nil, List.contains_nil, List.contains_cons, List.flatMap_cons, List.flatMap_nil, List.mem_cons, List.not_mem_nil, or_false, false_or, or_true, true_or, or_self, Bool.or_false, Bool.or_true, Bool.true_or, Bool.false_or, Bool.not_true, Bool.not_false, List.take_nil, List.drop_nil, eq_self, Option.some.injEq, false_and, and_false, ↓reduceIte]
  try simp only [reduceCtorEq, if_true, if_false, decide_true, decide_false, Bool.false_eq_true, true_imp_iff, not_true_eq_false, not_false_eq_true, false_imp_iff, and_false, false_and, or_false, false_or, eqf, eqt, bif_and, bif_or, Bool.not_not, Bool.not_eq_true', Bool.not_eq_false', Bool.or_eq_true, Bool.or_eq_false_iff, Bool.and_eq_true, Bool.and_eq_false_imp, decide_eq_true_eq, decide_eq_false_iff_not, bne_iff_ne, bne_eq_false_iff_eq, beq_iff_eq, beq_eq_false_iff_ne, ne_eq, Int.toNat_natCast, Int.not_lt, Int.not_le, ge_iff_le, gt_iff_lt, Int.natCast_nonneg, Int.ofNat_lt, imp_self, and_true, true_and, implies_true, Int.ofNat_inj, and_self, Classical.not_not]
  rintro ⟨⟨hfew, h0⟩, h1⟩
  have hn : n ≤ 12 ∨ 2000 < n := by
    unfold few11 at hfew
    simp only [Bool.and_eq_true, Bool.or_eq_true, decide_eq_true_eq] at hfew
    omega
  have w1 : IntKind.i64.wrap b = b := i64_in _ (by omega)
  have w2 : IntKind.i64.wrap (t + b) = t + b := i64_in _ (by omega)
  rw [w1, w2]
  obtain ⟨k1, k2⟩ := earliest_later (A := A) (v := v) (o := o) (to := to) (b := b) hn h0 h1 hb
  generalize earliestF n A (t, v, o) to = E at k1 k2 ⊢
  generalize earliestF n A (t + b, v, o) to = E' at k1 k2 ⊢
  refine ⟨fun q => q k1, fun _ h2 => ?_⟩
  obtain ⟨g1, g2, g3, g4⟩ := k2 h2
  refine ⟨fun q => ⟨q, fun q2 => ⟨q, q2⟩⟩, ⟨⟨g1, g2⟩, g3⟩, ?_⟩
  by_cases c : to = v
  · exact .inr (g4 c)
  · exact .inl c
end T
end Go.Proofs.Ytbbjopgneophnaa
