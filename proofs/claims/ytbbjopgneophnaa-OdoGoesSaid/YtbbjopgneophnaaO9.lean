/- OdoGoes, by the typed walk. -/
import Derived.Test.YtbbjopgneophnaaO4
import Derived.Test.YtbbjopgneophnaaD7
import Derived.Test.YtbbjopgneophnaaClockTook
namespace Go.Proofs.Ytbbjopgneophnaa
set_option linter.unusedVariables false
set_option linter.unusedSimpArgs false
open Go.RowKit Go.IntWalk T
/-- What holds of the drives of a car that goes by a way, behind k arcs. -/
structure Went (n : Nat) (A : List DArc) (src : Nat) (start : Int) (W : List Int) (k : Nat) (now : Int) (D : List DDrv) : Prop where
  len : D.length = k + 1
  d0 : D.getD 0 (0, 0, 0) = (start, (src : Int), 0)
  dk : D.getD k (0, 0, 0) = (now, (if k = 0 then (src : Int) else (A.getD (W.getD (k - 1) 0).toNat (0, 0, [], [])).2.1), (k : Int))
  bd : start ≤ now ∧ now ≤ start + 700 * k
  fine : ∀ i, i ≤ k → fineB n (D.getD i (0, 0, 0)) = true
  step : ∀ i, 1 ≤ i → i ≤ k → stepB (D.getD (i - 1) (0, 0, 0)) (D.getD i (0, 0, 0)) = true
  goes : ∀ i, 1 ≤ i → i ≤ k → goesTo n A (D.getD (i - 1) (0, 0, 0)) (D.getD i (0, 0, 0))
  all : goesTo n A (D.getD 0 (0, 0, 0)) (D.getD k (0, 0, 0))
theorem goes_self {n : Nat} {A : List DArc} {d : DDrv} (h : rightR n A = true) (hd : fineB n d = true) : goesTo n A d d := by
  obtain ⟨R, F, e⟩ := goesTo_iff h hd hd
  have hf := fineB_iff.1 hd
  rw [e, F.src]
  exact ⟨hf.1, Int.le_refl _⟩
/-- An arc, entered after some waiting. -/
theorem goes_arc {n : Nat} {A : List DArc} {i : Nat} {t o u z o' : Int} (h : rightR n A = true) (hi : i < A.length) (hd : fineB n (t, (A.getD i (0, 0, [], [])).1, o) = true) (hd' : fineB n (z, (A.getD i (0, 0, [], [])).2.1, o') = true) (htu : t ≤ u) (hu : u ≤ 1048576) (hz : u + (toArc (A.getD i (0, 0, [], []))).tk false u ≤ z) :
    goesTo n A (t, (A.getD i (0, 0, [], [])).1, o) (z, (A.getD i (0, 0, [], [])).2.1, o') := by
  obtain ⟨R, F, e⟩ := goesTo_iff h hd hd'
  have hf := fineB_iff.1 hd
  have hf' := fineB_iff.1 hd'
  have hr := (right_at h hi).1
  have hin := intoE h false i hi
  have f1 : 0 ≤ t ∧ t ≤ 1048576 := ⟨hf.1, hf.2.1⟩
  have f3 : z ≤ 1048576 := hf'.2.1
  rw [e]
  have hp := (Arc.pass_is (toArc (A.getD i (0, 0, [], []))) false f1.2).2 u htu hu
  have hp0 := (Arc.pass_bd hr false f1.2).1
  have src : R.getD (A.getD i (0, 0, [], [])).1.toNat (0, 0) = (t, -1) := F.src
  have c := F.closed i hi
  have e1 : (moveE A false i).1.toNat = (A.getD i (0, 0, [], [])).1.toNat := rfl
  have e2 : (moveE A false i).2.2 t = (toArc (A.getD i (0, 0, [], []))).pass false t := Arc.passF_yes _ hr f1
  rw [e1, src] at c
  have c2 := c f1.1 (by show timeB ((moveE A false i).2.2 t) = true; rw [e2]; exact timeB_iff.2 ⟨by omega, by omega⟩)
  have c3 : (R.getD (A.getD i (0, 0, [], [])).2.1.toNat (0, 0)).1 ≤ (moveE A false i).2.2 t := c2.2
  rw [e2] at c3
  refine ⟨c2.1, ?_⟩
  show (R.getD (A.getD i (0, 0, [], [])).2.1.toNat (0, 0)).1 ≤ z
  omega
theorem went_start {n : Nat} {A : List DArc} {src : Nat} {start : Int} {W : List Int} (h : rightR n A = true) (hs : src < n) (h0 : 0 ≤ start) (h1 : start ≤ 100000) : Went n A src start W 0 start [(start, (src : Int), 0)] := by
  have hf : fineB n (start, (src : Int), 0) = true := fineB_iff.2 ⟨h0, by show start ≤ 1048576; omega, by show (0 : Int) ≤ src; omega, by show (src : Int) < n; omega, (by decide : (0 : Int) ≤ 0), (by decide : (0 : Int) ≤ 1000000000000000)⟩
  refine ⟨rfl, rfl, rfl, ⟨Int.le_refl _, by omega⟩, fun i hi => ?_, fun i h1 h2 => by omega, fun i h1 h2 => by omega, goes_self h hf⟩
  obtain rfl : i = 0 := by omega
  exact hf
theorem went_step {n : Nat} {A : List DArc} {src : Nat} {start : Int} {W : List Int} {k : Nat} {now wt ex : Int} {D : List DDrv} (h : rightR n A = true) (hs : 0 ≤ start ∧ start ≤ 100000) (g : Went n A src start W k now D) (hk : k < W.length) (hk10 : k < 10)
    (hW : okL A false ((src : Int), start) W) (hwt : 0 ≤ wt ∧ wt ≤ 49) (hex : 0 ≤ ex ∧ ex ≤ 5) :
    Went n A src start W (k + 1) (now + wt + (toArc (A.getD (W.getD k 0).toNat (0, 0, [], []))).tk false (now + wt) + ex) (D ++ [(now + wt + (toArc (A.getD (W.getD k 0).toNat (0, 0, [], []))).tk false (now + wt) + ex, (A.getD (W.getD k 0).toNat (0, 0, [], [])).2.1, ((k + 1 : Nat) : Int))]) := by
  obtain ⟨len, d0, dk, bd, fine, step, goes, all⟩ := g
  have hw := hW k hk
  obtain ⟨i, ei⟩ : ∃ i : Nat, W.getD k 0 = (i : Int) := ⟨(W.getD k 0).toNat, by omega⟩
  have hfrom : (A.getD i (0, 0, [], [])).1 = if k = 0 then (src : Int) else (A.getD (W.getD (k - 1) 0).toNat (0, 0, [], [])).2.1 := by
    have := hw.2
    rw [ei, show ((i : Int)).toNat = i from rfl] at this
    rw [this]
    cases k with
    | zero => rfl
    | succ k => rw [goL_take (by omega)]; rfl
  rw [ei] at hw ⊢
  rw [show ((i : Int)).toNat = i from rfl]
  have hil : i < A.length := by omega
  have hr := right_at h hil
  have tb := Arc.tk_bd hr.1 false (now + wt)
  have hge : ∀ j, j ≤ k → ∀ x : DDrv, (D ++ [x]).getD j (0, 0, 0) = D.getD j (0, 0, 0) := fun j hj x => by
    rw [List.getD_eq_getElem?_getD, List.getElem?_append_left (by omega), ← List.getD_eq_getElem?_getD]
  have hla : ∀ x : DDrv, (D ++ [x]).getD (k + 1) (0, 0, 0) = x := fun x => by
    rw [List.getD_eq_getElem?_getD, List.getElem?_append_right (by omega), len, Nat.sub_self]; rfl
  rw [← hfrom] at dk
  have fk := fine k (Nat.le_refl _)
  rw [dk] at fk
  have fx : fineB n (now + wt + (toArc (A.getD i (0, 0, [], []))).tk false (now + wt) + ex, (A.getD i (0, 0, [], [])).2.1, ((k + 1 : Nat) : Int)) = true := by
    refine fineB_iff.2 ⟨?_, ?_, hr.2.2.1, hr.2.2.2, ?_, ?_⟩
    · show 0 ≤ now + wt + _ + ex; omega
    · show now + wt + _ + ex ≤ 1048576; omega
    · show (0 : Int) ≤ ((k + 1 : Nat) : Int); omega
    · show ((k + 1 : Nat) : Int) ≤ 1000000000000000; omega
  have gx := goes_arc (u := now + wt) h hil fk fx (by omega) (by omega) (show now + wt + _ ≤ now + wt + (toArc (A.getD i (0, 0, [], []))).tk false (now + wt) + ex by omega)
  rw [← dk] at gx
  generalize toArc (A.getD i (0, 0, [], [])) = ar at *
  refine ⟨by rw [List.length_append, len]; rfl, by rw [hge 0 (Nat.zero_le _), d0], ?_, ⟨by omega, by omega⟩, fun j hj => ?_, fun j j1 j2 => ?_, fun j j1 j2 => ?_, ?_⟩
  · rw [hla, if_neg (Nat.succ_ne_zero k), Nat.add_sub_cancel, ei]; rfl
  · by_cases c : j = k + 1
    · subst c; rw [hla]; exact fx
    · rw [hge j (by omega)]; exact fine j (by omega)
  · by_cases c : j = k + 1
    · subst c
      rw [hla, Nat.add_sub_cancel, hge k (Nat.le_refl _), dk]
      refine stepB_iff.2 ⟨?_, ?_, .inr ?_⟩
      · show now ≤ now + wt + _ + ex; omega
      · show (k : Int) ≤ ((k + 1 : Nat) : Int); omega
      · show (k : Int) < ((k + 1 : Nat) : Int); omega
    · rw [hge j (by omega), hge (j - 1) (by omega)]; exact step j j1 (by omega)
  · by_cases c : j = k + 1
    · subst c
      rw [hla, Nat.add_sub_cancel, hge k (Nat.le_refl _)]; exact gx
    · rw [hge j (by omega), hge (j - 1) (by omega)]; exact goes j j1 (by omega)
  · rw [hla, hge 0 (Nat.zero_le _)]
    exact goesTo_trans h (fine 0 (Nat.zero_le _)) (fine k (Nat.le_refl _)) fx all gx
theorem went_possible {n : Nat} {A : List DArc} {src : Nat} {start : Int} {W : List Int} {k : Nat} {now : Int} {D : List DDrv} (h : rightR n A = true) (g : Went n A src start W k now D) (hk : k ≤ 10) : (possibleF n A D).2.1 = 0 := by
  refine possibleF_iff.2 ⟨h, ?_, fun j j1 j2 => badAt_iff.2 (g.goes j j1 (by have := g.len; omega))⟩
  unfold rightDF
  rw [Bool.and_eq_true, decide_eq_true_iff, okDr_iff]
  have := g.len
  refine ⟨by omega, fun i hi => ⟨g.fine i (by omega), ?_⟩⟩
  by_cases c : i = 0
  · exact .inl c
  · exact .inr (g.step i (by omega) (by omega))
theorem way_okL {A : List DArc} {n src : Nat} {start to : Int} {R : List DLab} (h : rightR n A = true) (F : Found false (moveE A false) A.length n src start R) : okL A false ((src : Int), start) (wayF R A to) := by
  by_cases c : to < 0 ∨ R.length ≤ to ∨ (R.getD to.toNat (0, 0)).1 = -1
  · have e : wayF R A to = [] := if_pos c
    rw [e]
    exact fun k hk => absurd hk (Nat.not_lt_zero k)
  · have hL := F.hL
    rw [not_or, not_or] at c
    obtain ⟨v, rfl⟩ : ∃ v : Nat, to = v := ⟨to.toNat, by omega⟩
    exact ((way_found (intoE h false) F (show v < n by omega)).2 c.2.2).2
theorem earlyF_inv45 {n : Int} {A : List DArc} {src start : Int} {hi : Bool} (h : (earlyF n A src start hi).2.1 = 0) : rightR n A = true ∧ 0 ≤ src ∧ src < n ∧ timeB start = true := by
  unfold earlyF at h
  cases hc : rightR n A && (decide (0 ≤ src) && (decide (src < n) && timeB start)) with
  | false => rw [if_pos hc] at h; exact absurd (show (1 : Int) = 0 from h) (by decide)
  | true =>
    rw [Bool.and_eq_true, Bool.and_eq_true, Bool.and_eq_true, decide_eq_true_iff, decide_eq_true_iff] at hc
    exact ⟨hc.1, hc.2.1, hc.2.2.1, hc.2.2.2⟩
theorem tookF_range (a : Arc) (hi : Bool) (t : Int) : IntKind.i64.min ≤ a.tookF hi t ∧ a.tookF hi t ≤ IntKind.i64.max := by
  unfold Arc.tookF
  have e1 : IntKind.i64.min = -9223372036854775808 := rfl
  have e2 : IntKind.i64.max = 9223372036854775807 := rfl
  rw [e1, e2]
  split
  · rename_i q
    have := Arc.tk_bd (Arc.validB_true q).2 hi t
    omega
  · omega
namespace T
def entTook : Ent := ⟨23, .cons (.st (.cons (.int .i64) (.cons (.int .i64) (.cons (.sl (.int .i64)) (.sl (.int .i64)))))) (.cons (.int .i64) (.cons .bool .nil)), (.int .i64), false, none, fun _ => True, fun x => (toArc x.1).tookF x.2.2.1 x.2.1⟩
theorem conTook : Con Try.prog entTook := by
  refine ⟨by kernel_rfl, ?_⟩
  rintro ⟨x, t, hi, _⟩ _ w M vs hM ⟨v, _, rfl, q, v1, _, rfl, q1, v2, _, rfl, q2, rfl⟩
  obtain ⟨rfl, _⟩ := avr_int (hp := fun _ => none) (ψ := fun _ => undef) q1
  obtain rfl := avr_bool (hp := fun _ => none) (ψ := fun _ => undef) q2
  refine (Clock.took_any (arc_is q).1 t hi).mono ?_
  rintro e w' ⟨rfl, hb⟩
  exact ⟨_, rfl, hb, int_avr (hp := fun _ => none) (ψ := fun _ => undef) (tookF_range _ _ _)⟩
def entOGoes : Ent := ⟨7, .cons (.int .i64) (.cons (.sl (.st (.cons (.int .i64) (.cons (.int .i64) (.cons (.sl (.int .i64)) (.sl (.int .i64))))))) (.cons (.int .i64) (.cons (.int .i64) (.cons (.int .i64) (.cons (.sl (.int .u8)) .nil))))), .bool, false, none, fun _ => True, fun _ => true⟩
def csOg : List Ent := [entSmall45, entFew11, entEarly, entWay, entAt, entTook, entEarliest, entPossible] theorem hcsOg (f : FuncId) : findEnt csOg f = findEnt [entSmall45, entFew11, entEarly, entWay, entAt, entTook, entEarliest, entPossible] f := rfl
set_option maxHeartbeats 2500000 in
set_option maxRecDepth 20000 in
theorem conOGoes : Con Try.prog entOGoes := by
  refine con_is (C := csOg) x7 (by kernel_rfl) (by simp [csOg, conSmall45, conFew11, conEarly, conWay, conAt, conTook, conEarliest, conPossible]) fun x hx hf => ?_
  obtain ⟨(n : Int), (A : List DArc), (src : Int), (start : Int), (to : Int), (wts : List Int), _⟩ := x
  dsimp only [entOGoes, x7]; simp only [↓hcsOg, entSmall45, entFew11, entEarly, entWay, entAt, entTook, entEarliest, entPossible, nilOf, ↓xwp_top, slicey, oslx, copyx, srcx, ↓xwp_dead, ↓xwp_rfor, ↓xwp_yld, ↓rndA_n, ↓rndB_n, rndA_x, rndB_x, rndA_r, rndB_r, ↓backR_n, ↓backR_r, backR_e, ↓hasLp_mk, setLp, entY, entR, ylOf, List.zip_cons_cons, List.zip_nil_left, List.zip_nil_right, mapOf, keyOf', ↓leQ_mk, ↓xwp_icall, ↓backQ_n, ↓backQ_r, ↓backQ_e, afterI, entI, exI, oneAV, keepI, XO.reads, XA.slot, eqsx, eqd,  List.drop_zero, List.take_length, Int.toNat_zero, Int.toNat_natCast, List.set_cons_zero, List.set_cons_succ, ↓xwp_clean, tmG, cleanS, headT, numb, rensT, tmle, fastD, runR_true, runR_false, quiet, Eff.tch, ↓xwp_seq, ↓xwp_skip, ↓xwp_ret, ↓xwp_exit, ↓xwp_block, ↓xwp_loop, ↓xwp_reg, ↓xwp_cond, ↓thn_n, ↓thn_e, ↓thn_r, ↓XQ.seq, ↓XQ.blk, List.getElem?_cons_succ, List.getElem?_cons_zero, List.getElem?_nil, runT, stepT, gop, gcond, opg, pickx, boolOf, XOp.isPick, opx, stripL, strip, pur, XO.gv, XA.av, setT, appL, killL, effOk, ltAll, AV.locs, AV.locsL, OB.locs, look, enter, resAVs, binx, intBin, eqx, lenx, condOf, loadx, partOf, storex, splice, cellsOf, scatter, zeroAV, fieldx, faddrx, iaddrx, bounds, avInt, avIntK, avBool, extx, slicex, fillx, rowx, callx, callvx, fn1x, fn2x, findEnt, rdL, rdA, rdClo, rdCap, rd, rd1, rdAgg, rdPtr, rdc, rd1c, ofCst, proj, upd, appendx, srcx, freshEff, minx, Ty.isSt, Ty.size, Ty.scalar, Ty.dflt, cast?_self, List.map_cons, List.map_nil, List.getD_cons_zero, List.getD_cons_succ, List.length_cons, List.length_nil, List.cons_append, List.nil_append, List.append_nil, List.filter_cons, List.filter_nil, List.isEmpty_nil, List.isEmpty_cons, Option.map_some, Option.map_none, Option.bind_some, Option.isNone_none, Option.isNone_some, Bool.false_eq_true, if_true, if_false, ite_true, ite_false, Bool.and_true, Bool.true_and, Bool.and_false, Bool.false_and, and_true, true_and, and_self, not_true_eq_false, not_false_eq_true, imp_self, forall_const, true_imp_iff, implies_true, decide_true, decide_false, cond_true, cond_false, reduceCtorEq, List.find?_cons, List.find?_nil, beq_self_eq_true, List.drop_zero, List.take_zero, List.drop_succ_cons, List.take_succ_cons, Nat.reduceAdd, Nat.reduceSub, Nat.reduceMul, Nat.reduceLT, Nat.reduceLeDiff, Nat.reduceEqDiff, Nat.reduceBEq, Nat.reduceBNe, List.reduceReplicate, reduceIte, retQ, finish, resAll, resAV, freshIs, stepD, runD, okD, meet, reach, reachO, restr, inAll, effIn, headOf, puts, put1, keep, le', autoρ, tidy, renB, rens, ren1, asle, avles, avle, hple, oble, uniq, sub, locOk, assoc, disj, List.all_cons, List.all_nil, List.any_cons, List.any_nil, List.contains_nil, List.contains_cons, List.flatMap_cons, List.flatMap_nil, List.mem_cons, List.not_mem_nil, or_false, false_or, or_true, true_or, or_self, Bool.or_false, Bool.or_true, Bool.true_or, Bool.false_or, Bool.not_true, Bool.not_false, List.take_nil, List.drop_nil, eq_self, Option.some.injEq, false_and, and_false, ↓reduceIte]
  try simp only [reduceCtorEq, if_true, if_false, decide_true, decide_false, Bool.false_eq_true, true_imp_iff, not_true_eq_false, not_false_eq_true, false_imp_iff, and_false, false_and, or_false, false_or, eqf, eqt, bif_and, bif_or, Bool.not_not, Bool.not_eq_true', Bool.not_eq_false', Bool.or_eq_true, Bool.or_eq_false_iff, Bool.and_eq_true, Bool.and_eq_false_imp, decide_eq_true_eq, decide_eq_false_iff_not, bne_iff_ne, bne_eq_false_iff_eq, beq_iff_eq, beq_eq_false_iff_ne, ne_eq, Int.toNat_natCast, Int.not_lt, Int.not_le, ge_iff_le, gt_iff_lt, Int.natCast_nonneg, Int.ofNat_lt, imp_self, and_true, true_and, implies_true, Int.ofNat_inj, and_self, Classical.not_not]
  rintro _ ⟨he, hst⟩
  obtain ⟨hr, hs0, hs1, ht⟩ := earlyF_inv45 he
  obtain ⟨⟨n1, n2⟩, hAl, hall⟩ := rightR_all hr
  obtain ⟨n, rfl⟩ : ∃ m : Nat, n = m := ⟨n.toNat, by omega⟩
  obtain ⟨src, rfl⟩ : ∃ m : Nat, src = m := ⟨src.toNat, by omega⟩
  obtain ⟨R, eR, F⟩ := earlyF_ok (hi := false) hr (by omega : src < n) ht
  have hL := F.hL
  have hs2 := (timeB_iff.1 ht).1
  have hW := way_okL (to := to) hr F
  have hWl := wayF_length (L := R) (A := A) (to := to)
  simp only [eR]
  clear eR
  generalize wayF R A to = W at hW hWl ⊢
  refine ⟨by omega, ?_⟩
  refine XW_for 1000 x7_0d [31] (Nat × Int × List DDrv) (fun s => [(17, .own 31), (18, .val (.int .i64) s.2.1), (19, .val (.int .i64) (s.1 : Int))]) (fun s => [(31, .row 25 (.st (.cons (.int .i64) (.cons (.int .i64) (.int .i64)))) s.2.2)])
    (fun s => s.1 ≤ W.length ∧ s.1 ≤ 10 ∧ Went n A src start W s.1 s.2.1 s.2.2) (fun s => W.length - s.1) (0, start, [(start, (src : Int), 0)]) ?_ ?_ ?_
  · dsimp only [x7_0d]
    simp only [nilOf, ↓xwp_top, slicey, oslx, copyx, srcx, ↓xwp_dead, ↓xwp_rfor, ↓xwp_yld, ↓rndA_n, ↓rndB_n, rndA_x, rndB_x, rndA_r, rndB_r, ↓backR_n, ↓backR_r, backR_e, ↓hasLp_mk, setLp, entY, entR, ylOf, List.zip_cons_cons, List.zip_nil_left, List.zip_nil_right, mapOf, keyOf', ↓leQ_mk, ↓xwp_icall, ↓backQ_n, ↓backQ_r, ↓backQ_e, afterI, entI, exI, oneAV, keepI, XO.reads, XA.slot, eqsx, eqd,  List.drop_zero, List.take_length, Int.toNat_zero, Int.toNat_natCast, List.set_cons_zero, List.set_cons_succ, ↓xwp_clean, tmG, cleanS, headT, numb, rensT, tmle, fastD, runR_true, runR_false, quiet, Eff.tch, ↓xwp_seq, ↓xwp_skip, ↓xwp_ret, ↓xwp_exit, ↓xwp_block, ↓xwp_loop, ↓xwp_reg, ↓xwp_cond, ↓thn_n, ↓thn_e, ↓thn_r, ↓XQ.seq, ↓XQ.blk, List.getElem?_cons_succ, List.getElem?_cons_zero, List.getElem?_nil, runT, stepT, gop, gcond, opg, pickx, boolOf, XOp.isPick, opx, stripL, strip, pur, XO.gv, XA.av, setT, appL, killL, effOk, ltAll, AV.locs, AV.locsL, OB.locs, look, enter, resAVs, binx, intBin, eqx, lenx, condOf, loadx, partOf, storex, splice, cellsOf, scatter, zeroAV, fieldx, faddrx, iaddrx, bounds, avInt, avIntK, avBool, extx, slicex, fillx, rowx, callx, callvx, fn1x, fn2x, findEnt, rdL, rdA, rdClo, rdCap, rd, rd1, rdAgg, rdPtr, rdc, rd1c, ofCst, proj, upd, appendx, srcx, freshEff, minx, Ty.isSt, Ty.size, Ty.scalar, Ty.dflt, cast?_self, List.map_cons, List.map_nil, List.getD_cons_zero, List.getD_cons_succ, List.length_cons, List.length_nil, List.cons_append, List.nil_append, List.append_nil, List.filter_cons, List.filter_nil, List.isEmpty_nil, List.isEmpty_cons, Option.map_some, Option.map_none, Option.bind_some, Option.isNone_none, Option.isNone_some, Bool.false_eq_true, if_true, if_false, ite_true, ite_false, Bool.and_true, Bool.true_and, Bool.and_false, Bool.false_and, and_true, true_and, and_self, not_true_eq_false, not_false_eq_true, imp_self, forall_const, true_imp_iff, implies_true, decide_true, decide_false, cond_true, cond_false, reduceCtorEq, List.find?_cons, List.find?_nil, beq_self_eq_true, List.drop_zero, List.take_zero, List.drop_succ_cons, List.take_succ_cons, Nat.reduceAdd, Nat.reduceSub, Nat.reduceMul, Nat.reduceLT, Nat.reduceLeDiff, Nat.reduceEqDiff, Nat.reduceBEq, Nat.reduceBNe, List.reduceReplicate, reduceIte, retQ, finish, resAll, resAV, freshIs, stepD, runD, okD, meet, reach, reachO, restr, inAll, effIn, headOf, puts, put1, keep, le', autoρ, tidy, renB, rens, ren1, asle, avles, avle, hple, oble, uniq, sub, locOk, assoc, disj, List.all_cons, List.all_nil, List.any_cons, List.any_nil, List.contains_nil, List.contains_cons, List.flatMap_cons, List.flatMap_nil, List.mem_cons, List.not_mem_nil, or_false, false_or, or_true, true_or, or_self, Bool.or_false, Bool.or_true, Bool.true_or, Bool.false_or, Bool.not_true, Bool.not_false, List.take_nil, List.drop_nil, eq_self, Option.some.injEq, false_and, and_false, ↓reduceIte]
    try rfl
  · exact ⟨Nat.zero_le _, Nat.zero_le _, went_start hr (by omega) hs2 hst⟩
  · rintro ⟨k, now, D⟩ ⟨hk, hk10, g⟩
    dsimp only at hk hk10 g
    dsimp only [x7_0, x7_0d]
    by_cases hin : k < W.length ∧ k < 10
    rotate_left
    · simp only [↓hcsOg, entSmall45, entFew11, entEarly, entWay, entAt, entTook, entEarliest, entPossible, nilOf, ↓xwp_top, slicey, oslx, copyx, srcx, ↓xwp_dead, ↓xwp_rfor, ↓xwp_yld, ↓rndA_n, ↓rndB_n, rndA_x, rndB_x, rndA_r, rndB_r, ↓backR_n, ↓backR_r, backR_e, ↓hasLp_mk, setLp, entY, entR, ylOf, List.zip_cons_cons, List.zip_nil_left, List.zip_nil_right, mapOf, keyOf', ↓leQ_mk, ↓xwp_icall, ↓backQ_n, ↓backQ_r, ↓backQ_e, afterI, entI, exI, oneAV, keepI, XO.reads, XA.slot, eqsx, eqd,  List.drop_zero, List.take_length, Int.toNat_zero, Int.toNat_natCast, List.set_cons_zero, List.set_cons_succ, ↓xwp_clean, tmG, cleanS, headT, numb, rensT, tmle, fastD, runR_true, runR_false, quiet, Eff.tch, ↓xwp_seq, ↓xwp_skip, ↓xwp_ret, ↓xwp_exit, ↓xwp_block, ↓xwp_loop, ↓xwp_reg, ↓xwp_cond, ↓thn_n, ↓thn_e, ↓thn_r, ↓XQ.seq, ↓XQ.blk, List.getElem?_cons_succ, List.getElem?_cons_zero, List.getElem?_nil, runT, stepT, gop, gcond, opg, pickx, boolOf, XOp.isPick, opx, stripL, strip, pur, XO.gv, XA.av, setT, appL, killL, effOk, ltAll, AV.locs, AV.locsL, OB.locs, look, enter, resAVs, binx, intBin, eqx, lenx, condOf, loadx, partOf, storex, splice, cellsOf, scatter, zeroAV, fieldx, faddrx, iaddrx, bounds, avInt, avIntK, avBool, extx, slicex, fillx, rowx, callx, callvx, fn1x, fn2x, findEnt, rdL, rdA, rdClo, rdCap, rd, rd1, rdAgg, rdPtr, rdc, rd1c, ofCst, proj, upd, appendx, srcx, freshEff, minx, Ty.isSt, Ty.size, Ty.scalar, Ty.dflt, cast?_self, List.map_cons, List.map_nil, List.getD_cons_zero, List.getD_cons_succ, List.length_cons, List.length_nil, List.cons_append, List.nil_append, List.append_nil, List.filter_cons, List.filter_nil, List.isEmpty_nil, List.isEmpty_cons, Option.map_some, Option.map_none, Option.bind_some, Option.isNone_none, Option.isNone_some, Bool.false_eq_true, if_true, if_false, ite_true, ite_false, Bool.and_true, Bool.true_and, Bool.and_false, Bool.false_and, and_true, true_and, and_self, not_true_eq_false, not_false_eq_true, imp_self, forall_const, true_imp_iff, implies_true, decide_true, decide_false, cond_true, cond_false, reduceCtorEq, List.find?_cons, List.find?_nil, beq_self_eq_true, List.drop_zero, List.take_zero, List.drop_succ_cons, List.take_succ_cons, Nat.reduceAdd, Nat.reduceSub, Nat.reduceMul, Nat.reduceLT, Nat.reduceLeDiff, Nat.reduceEqDiff, Nat.reduceBEq, Nat.reduceBNe, List.reduceReplicate, reduceIte, retQ, finish, resAll, resAV, freshIs, stepD, runD, okD, meet, reach, reachO, restr, inAll, effIn, headOf, puts, put1, keep, le', autoρ, tidy, renB, rens, ren1, asle, avles, avle, hple, oble, uniq, sub, locOk, assoc, disj, List.all_cons, List.all_nil, List.any_cons, List.any_nil, List.contains_nil, List.contains_cons, List.flatMap_cons, List.flatMap_nil, List.mem_cons, List.not_mem_nil, or_false, false_or, or_true, true_or, or_self, Bool.or_false, Bool.or_true, Bool.true_or, Bool.false_or, Bool.not_true, Bool.not_false, List.take_nil, List.drop_nil, eq_self, Option.some.injEq, false_and, and_false, ↓reduceIte]
      try simp only [reduceCtorEq, if_true, if_false, decide_true, decide_false, Bool.false_eq_true, true_imp_iff, not_true_eq_false, not_false_eq_true, false_imp_iff, and_false, false_and, or_false, false_or, eqf, eqt, bif_and, bif_or, Bool.not_not, Bool.not_eq_true', Bool.not_eq_false', Bool.or_eq_true, Bool.or_eq_false_iff, Bool.and_eq_true, Bool.and_eq_false_imp, decide_eq_true_eq, decide_eq_false_iff_not, bne_iff_ne, bne_eq_false_iff_eq, beq_iff_eq, beq_eq_false_iff_ne, ne_eq, Int.toNat_natCast, Int.not_lt, Int.not_le, ge_iff_le, gt_iff_lt, Int.natCast_nonneg, Int.ofNat_lt, imp_self, and_true, true_and, implies_true, Int.ofNat_inj, and_self, Classical.not_not]
      refine ⟨fun q => absurd ⟨q.1, by have := q.2; omega⟩ hin, fun _ => ?_⟩
      exact went_possible hr g hk10
    · have hw := hW k hin.1
      have har := right_at hr (i := (W.getD k 0).toNat) (by omega)
      have gb := g.bd
      have gl := g.len
      have w9 : IntKind.i64.wrap ((k : Int) + 1) = ((k + 1 : Nat) : Int) := i64_in _ (by omega)
      -- a step with its numbers
      have st : ∀ wt ex : Int, 0 ≤ wt ∧ wt ≤ 49 → 0 ≤ ex ∧ ex ≤ 5 → ∃ T : Int, (0 ≤ T ∧ T ≤ 600) ∧ (toArc (A.getD (W.getD k 0).toNat (0, 0, [], []))).tookF false (now + wt) = T ∧
          Went n A src start W (k + 1) (now + wt + T + ex) (D ++ [(now + wt + T + ex, (A.getD (W.getD k 0).toNat (0, 0, [], [])).2.1, ((k + 1 : Nat) : Int))]) ∧
          (earliestF n A ((D ++ [(now + wt + T + ex, (A.getD (W.getD k 0).toNat (0, 0, [], [])).2.1, ((k + 1 : Nat) : Int))]).getD 0 (0, 0, 0)) (A.getD (W.getD k 0).toNat (0, 0, [], [])).2.1).2.1 = 0 ∧
          (earliestF n A ((D ++ [(now + wt + T + ex, (A.getD (W.getD k 0).toNat (0, 0, [], [])).2.1, ((k + 1 : Nat) : Int))]).getD 0 (0, 0, 0)) (A.getD (W.getD k 0).toNat (0, 0, [], [])).2.1).1 ≤ now + wt + T + ex := by
        intro wt ex hwt hex
        have g' := went_step hr ⟨hs2, hst⟩ g hin.1 hin.2 hW hwt hex
        refine ⟨_, Arc.tk_bd har.1 false (now + wt), Arc.tookF_yes false har.1 ⟨by omega, by omega⟩, g', ?_⟩
        have ga := g'.all
        have gd := g'.dk
        rw [if_neg (Nat.succ_ne_zero k), Nat.add_sub_cancel] at gd
        rw [gd] at ga
        exact ga
      have hD : ∀ x : DDrv, 0 < (D ++ [x]).length := fun x => by rw [List.length_append]; exact Nat.succ_pos _
      by_cases hkw : k < wts.length
      · have hx : 0 ≤ wts.getD k 0 ∧ wts.getD k 0 ≤ 255 := hf.2.2.2.2.2.1.2 _ (getD_mem hkw)
        obtain ⟨wt, ewt, hwt⟩ : ∃ wt : Int, Int.tmod (wts.getD k 0) 50 = wt ∧ 0 ≤ wt ∧ wt ≤ 49 := ⟨_, rfl, Int.tmod_nonneg 50 hx.1, by have := Int.tmod_lt_of_pos (wts.getD k 0) (show (0 : Int) < 50 by decide); omega⟩
        obtain ⟨ex, eex, hex⟩ : ∃ ex : Int, Int.tdiv (wts.getD k 0) 50 = ex ∧ 0 ≤ ex ∧ ex ≤ 5 := ⟨_, rfl, by rw [Int.tdiv_eq_ediv_of_nonneg hx.1]; omega⟩
        obtain ⟨T, hT, eT, g', e1, e2⟩ := st wt ex hwt hex
        have u1 : IntKind.i64.wrap wt = wt := i64_in _ (by omega)
        have u2 : IntKind.u8.wrap ex = ex := by
          have e : IntKind.u8.wrap ex = ex % 256 := rfl
          rw [e]; omega
        have u3 : IntKind.i64.wrap ex = ex := i64_in _ (by omega)
        have u4 : IntKind.i64.wrap (now + wt) = now + wt := i64_in _ (by omega)
        have u5 : IntKind.i64.wrap (now + wt + T) = now + wt + T := i64_in _ (by omega)
        have u6 : IntKind.i64.wrap (now + wt + T + ex) = now + wt + T + ex := i64_in _ (by omega)
        simp only [↓hcsOg, hkw, ewt, eex, u1, u2, u3, u4, eT, u5, u6, w9, entSmall45, entFew11, entEarly, entWay, entAt, entTook, entEarliest, entPossible, nilOf, ↓xwp_top, slicey, oslx, copyx, srcx, ↓xwp_dead, ↓xwp_rfor, ↓xwp_yld, ↓rndA_n, ↓rndB_n, rndA_x, rndB_x, rndA_r, rndB_r, ↓backR_n, ↓backR_r, backR_e, ↓hasLp_mk, setLp, entY, entR, ylOf, List.zip_cons_cons, List.zip_nil_left, List.zip_nil_right, mapOf, keyOf', ↓leQ_mk, ↓xwp_icall, ↓backQ_n, ↓backQ_r, ↓backQ_e, afterI, entI, exI, oneAV, keepI, XO.reads, XA.slot, eqsx, eqd,  List.drop_zero, List.take_length, Int.toNat_zero, Int.toNat_natCast, List.set_cons_zero, List.set_cons_succ, ↓xwp_clean, tmG, cleanS, headT, numb, rensT, tmle, fastD, runR_true, runR_false, quiet, Eff.tch, ↓xwp_seq, ↓xwp_skip, ↓xwp_ret, ↓xwp_exit, ↓xwp_block, ↓xwp_loop, ↓xwp_reg, ↓xwp_cond, ↓thn_n, ↓thn_e, ↓thn_r, ↓XQ.seq, ↓XQ.blk, List.getElem?_cons_succ, List.getElem?_cons_zero, List.getElem?_nil, runT, stepT, gop, gcond, opg, pickx, boolOf, XOp.isPick, opx, stripL, strip, pur, XO.gv, XA.av, setT, appL, killL, effOk, ltAll, AV.locs, AV.locsL, OB.locs, look, enter, resAVs, binx, intBin, eqx, lenx, condOf, loadx, partOf, storex, splice, cellsOf, scatter, zeroAV, fieldx, faddrx, iaddrx, bounds, avInt, avIntK, avBool, extx, slicex, fillx, rowx, callx, callvx, fn1x, fn2x, findEnt, rdL, rdA, rdClo, rdCap, rd, rd1, rdAgg, rdPtr, rdc, rd1c, ofCst, proj, upd, appendx, srcx, freshEff, minx, Ty.isSt, Ty.size, Ty.scalar, Ty.dflt, cast?_self, List.map_cons, List.map_nil, List.getD_cons_zero, List.getD_cons_succ, List.length_cons, List.length_nil, List.cons_append, List.nil_append, List.append_nil, List.filter_cons, List.filter_nil, List.isEmpty_nil, List.isEmpty_cons, Option.map_some, Option.map_none, Option.bind_some, Option.isNone_none, Option.isNone_some, Bool.false_eq_true, if_true, if_false, ite_true, ite_false, Bool.and_true, Bool.true_and, Bool.and_false, Bool.false_and, and_true, true_and, and_self, not_true_eq_false, not_false_eq_true, imp_self, forall_const, true_imp_iff, implies_true, decide_true, decide_false, cond_true, cond_false, reduceCtorEq, List.find?_cons, List.find?_nil, beq_self_eq_true, List.drop_zero, List.take_zero, List.drop_succ_cons, List.take_succ_cons, Nat.reduceAdd, Nat.reduceSub, Nat.reduceMul, Nat.reduceLT, Nat.reduceLeDiff, Nat.reduceEqDiff, Nat.reduceBEq, Nat.reduceBNe, List.reduceReplicate, reduceIte, retQ, finish, resAll, resAV, freshIs, stepD, runD, okD, meet, reach, reachO, restr, inAll, effIn, headOf, puts, put1, keep, le', autoρ, tidy, renB, rens, ren1, asle, avles, avle, hple, oble, uniq, sub, locOk, assoc, disj, List.all_cons, List.all_nil, List.any_cons, List.any_nil, List.contains_nil, List.contains_cons, List.flatMap_cons, List.flatMap_nil, List.mem_cons, List.not_mem_nil, or_false, false_or, or_true, true_or, or_self, Bool.or_false, Bool.or_true, Bool.true_or, Bool.false_or, Bool.not_true, Bool.not_false, List.take_nil, List.drop_nil, eq_self, Option.some.injEq, false_and, and_false, ↓reduceIte]
        try simp only [reduceCtorEq, if_true, if_false, decide_true, decide_false, Bool.false_eq_true, true_imp_iff, not_true_eq_false, not_false_eq_true, false_imp_iff, and_false, false_and, or_false, false_or, eqf, eqt, bif_and, bif_or, Bool.not_not, Bool.not_eq_true', Bool.not_eq_false', Bool.or_eq_true, Bool.or_eq_false_iff, Bool.and_eq_true, Bool.and_eq_false_imp, decide_eq_true_eq, decide_eq_false_iff_not, bne_iff_ne, bne_eq_false_iff_eq, beq_iff_eq, beq_eq_false_iff_ne, ne_eq, Int.toNat_natCast, Int.not_lt, Int.not_le, ge_iff_le, gt_iff_lt, Int.natCast_nonneg, Int.ofNat_lt, imp_self, and_true, true_and, implies_true, Int.ofNat_inj, and_self, Classical.not_not]
        simp only [hkw, true_implies, not_true_eq_false, false_implies, and_true, true_and]
        refine ⟨fun _ => ⟨⟨hin.1, fun q2 => ⟨q2, hin.1⟩⟩, fun q2 => by omega, fun q2 => ⟨by decide, ⟨hin.1, q2⟩, fun q3 => absurd hT.1 (Int.not_le.2 q3), fun _ => ⟨by decide, ⟨hin.1, q2, by omega⟩, ⟨⟨Int.le_refl _, Int.natCast_pos.2 (hD _)⟩, hD _, hin.1, q2⟩,
          fun q3 => q3.elim (fun q3 => q3 e1) (fun q3 => absurd e2 (Int.not_le.2 q3)), fun _ => ⟨(k + 1, now + wt + T + ex, _), by dsimp only; omega, ⟨hin.1, hin.2, g'⟩, ⟨rfl, rfl⟩, rfl⟩⟩⟩⟩, fun q => absurd (q hin.1) (by have := hin.2; omega)⟩
      · obtain ⟨T, hT, eT, g', e1, e2⟩ := st 0 0 (by decide) (by decide)
        rw [Int.add_zero] at eT g' e1 e2
        rw [Int.add_zero] at g' e1 e2
        have u5 : IntKind.i64.wrap (now + T) = now + T := i64_in _ (by omega)
        simp only [↓hcsOg, hkw, eT, u5, w9, entSmall45, entFew11, entEarly, entWay, entAt, entTook, entEarliest, entPossible, nilOf, ↓xwp_top, slicey, oslx, copyx, srcx, ↓xwp_dead, ↓xwp_rfor, ↓xwp_yld, ↓rndA_n, ↓rndB_n, rndA_x, rndB_x, rndA_r, rndB_r, ↓backR_n, ↓backR_r, backR_e, ↓hasLp_mk, setLp, entY, entR, ylOf, List.zip_cons_cons, List.zip_nil_left, List.zip_nil_right, mapOf, keyOf', ↓leQ_mk, ↓xwp_icall, ↓backQ_n, ↓backQ_r, ↓backQ_e, afterI, entI, exI, oneAV, keepI, XO.reads, XA.slot, eqsx, eqd,  List.drop_zero, List.take_length, Int.toNat_zero, Int.toNat_natCast, List.set_cons_zero, List.set_cons_succ, ↓xwp_clean, tmG, cleanS, headT, numb, rensT, tmle, fastD, runR_true, runR_false, quiet, Eff.tch, ↓xwp_seq, ↓xwp_skip, ↓xwp_ret, ↓xwp_exit, ↓xwp_block, ↓xwp_loop, ↓xwp_reg, ↓xwp_cond, ↓thn_n, ↓thn_e, ↓thn_r, ↓XQ.seq, ↓XQ.blk, List.getElem?_cons_succ, List.getElem?_cons_zero, List.getElem?_nil, runT, stepT, gop, gcond, opg, pickx, boolOf, XOp.isPick, opx, stripL, strip, pur, XO.gv, XA.av, setT, appL, killL, effOk, ltAll, AV.locs, AV.locsL, OB.locs, look, enter, resAVs, binx, intBin, eqx, lenx, condOf, loadx, partOf, storex, splice, cellsOf, scatter, zeroAV, fieldx, faddrx, iaddrx, bounds, avInt, avIntK, avBool, extx, slicex, fillx, rowx, callx, callvx, fn1x, fn2x, findEnt, rdL, rdA, rdClo, rdCap, rd, rd1, rdAgg, rdPtr, rdc, rd1c, ofCst, proj, upd, appendx, srcx, freshEff, minx, Ty.isSt, Ty.size, Ty.scalar, Ty.dflt, cast?_self, List.map_cons, List.map_nil, List.getD_cons_zero, List.getD_cons_succ, List.length_cons, List.length_nil, List.cons_append, List.nil_append, List.append_nil, List.filter_cons, List.filter_nil, List.isEmpty_nil, List.isEmpty_cons, Option.map_some, Option.map_none, Option.bind_some, Option.isNone_none, Option.isNone_some, Bool.false_eq_true, if_true, if_false, ite_true, ite_false, Bool.and_true, Bool.true_and, Bool.and_false, Bool.false_and, and_true, true_and, and_self, not_true_eq_false, not_false_eq_true, imp_self, forall_const, true_imp_iff, implies_true, decide_true, decide_false, cond_true, cond_false, reduceCtorEq, List.find?_cons, List.find?_nil, beq_self_eq_true, List.drop_zero, List.take_zero, List.drop_succ_cons, List.take_succ_cons, Nat.reduceAdd, Nat.reduceSub, Nat.reduceMul, Nat.reduceLT, Nat.reduceLeDiff, Nat.reduceEqDiff, Nat.reduceBEq, Nat.reduceBNe, List.reduceReplicate, reduceIte, retQ, finish, resAll, resAV, freshIs, stepD, runD, okD, meet, reach, reachO, restr, inAll, effIn, headOf, puts, put1, keep, le', autoρ, tidy, renB, rens, ren1, asle, avles, avle, hple, oble, uniq, sub, locOk, assoc, disj, List.all_cons, List.all_nil, List.any_cons, List.any_nil, List.contains_nil, List.contains_cons, List.flatMap_cons, List.flatMap_nil, List.mem_cons, List.not_mem_nil, or_false, false_or, or_true, true_or, or_self, Bool.or_false, Bool.or_true, Bool.true_or, Bool.false_or, Bool.not_true, Bool.not_false, List.take_nil, List.drop_nil, eq_self, Option.some.injEq, false_and, and_false, ↓reduceIte]
        try simp only [reduceCtorEq, if_true, if_false, decide_true, decide_false, Bool.false_eq_true, true_imp_iff, not_true_eq_false, not_false_eq_true, false_imp_iff, and_false, false_and, or_false, false_or, eqf, eqt, bif_and, bif_or, Bool.not_not, Bool.not_eq_true', Bool.not_eq_false', Bool.or_eq_true, Bool.or_eq_false_iff, Bool.and_eq_true, Bool.and_eq_false_imp, decide_eq_true_eq, decide_eq_false_iff_not, bne_iff_ne, bne_eq_false_iff_eq, beq_iff_eq, beq_eq_false_iff_ne, ne_eq, Int.toNat_natCast, Int.not_lt, Int.not_le, ge_iff_le, gt_iff_lt, Int.natCast_nonneg, Int.ofNat_lt, imp_self, and_true, true_and, implies_true, Int.ofNat_inj, and_self, Classical.not_not]
        simp only [hkw, true_implies, not_false_eq_true, false_implies, and_true, true_and]
        refine ⟨fun _ => ⟨⟨hin.1, fun q2 => ⟨q2, hin.1⟩⟩, fun q2 => by omega, fun q2 => ⟨⟨hin.1, q2⟩, fun q3 => absurd hT.1 (Int.not_le.2 q3), fun _ => ⟨⟨hin.1, q2, by omega⟩, ⟨⟨Int.le_refl _, Int.natCast_pos.2 (hD _)⟩, hD _, hin.1, q2⟩,
          fun q3 => q3.elim (fun q3 => q3 e1) (fun q3 => absurd e2 (Int.not_le.2 q3)), fun _ => ⟨(k + 1, now + T, _), by dsimp only; omega, ⟨hin.1, hin.2, g'⟩, ⟨rfl, rfl⟩, rfl⟩⟩⟩⟩, fun q => absurd (q hin.1) (by have := hin.2; omega)⟩
end T
end Go.Proofs.Ytbbjopgneophnaa
