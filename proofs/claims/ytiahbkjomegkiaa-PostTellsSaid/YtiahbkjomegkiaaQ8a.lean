/- PostTells, by the typed walk, 1: the states of its last loop. -/
import Derived.Test.YtiahbkjomegkiaaQ7
namespace Go.Proofs.Ytiahbkjomegkiaa
set_option linter.unusedVariables false
set_option linter.unusedSimpArgs false
open Go.RowKit Go.IntWalk
namespace T
abbrev DAct := Int × Int × ByteArray
theorem flight_of {S : List ByteArray} {n : Int} {E : List Int} (h : rightW (S, n, E) = true) : flightF (S, n, E) = S.drop n.toNat := by unfold flightF; rw [if_neg (by rw [h]; simp)]
theorem i40 : ((4 : Int) != 0) = true := by decide
theorem i50 : ((5 : Int) != 0) = true := by decide
theorem i44 : ((4 : Int) != 4) = false := by decide
theorem i55 : ((5 : Int) != 5) = false := by decide
theorem i66 : ((6 : Int) != 6) = false := by decide
theorem j40 : ((4 : Int) == 0) = false := by decide
theorem j50 : ((5 : Int) == 0) = false := by decide
theorem j00 : ((0 : Int) == 0) = true := by decide
theorem i00 : ((0 : Int) != 0) = false := by decide
theorem bne_nat (x : Nat) : ((x : Int) != (x : Int)) = false := by simp
theorem dec_self (l : List Int) : decide (l = l) = true := decide_eq_true rfl
def entTel : Ent := ⟨3, .cons (.sl .str) (.cons (.int .i64) (.cons (.sl (.int .i64)) (.cons (.sl (.st (.cons (.int .i64) (.cons (.int .i64) .str)))) .nil))), .bool, false, none, fun _ => True, fun _ => true⟩
def csTe : List Ent := [entSmall42, entArr, entSend, entAgain, entFlight, entRightW, entSameS, entIntsS, entNextM, entEarlyM, entAgainM] theorem hcsTe (f : FuncId) : findEnt csTe f = findEnt [entSmall42, entArr, entSend, entAgain, entFlight, entRightW, entSameS, entIntsS, entNextM, entEarlyM, entAgainM] f := rfl

abbrev teB : XC := (XC.reg false [⟨some 200, XOp.mv, [XA.t 9], none, []⟩, ⟨some 8, XOp.mv, [XA.t 200], none, []⟩]).seq XC.ret
def teK : XQ := XQ.blk 0 (thn Try.prog csTe 201 teB (retQ [XR.tmp 8] false none Ty.bool true))
def teS (S0 : List ByteArray) (i0 : Int) (E0 : List Int) (A : List DAct) (w : DWay) : AS where
  tm := [(18, AV.val (Ty.int IntKind.i64) 0), (0, AV.val Ty.str.sl S0), (1, AV.val (Ty.int IntKind.i64) i0), (2, AV.val (Ty.int IntKind.i64).sl E0), (3, AV.val (.sl (.st (.cons (.int .i64) (.cons (.int .i64) .str)))) A), (8, AV.val Ty.bool false), (9, AV.val Ty.bool true), (10, AV.ptr 20 0), (11, AV.ptr 47 0), (12, AV.val Ty.bool true), (13, AV.top), (14, AV.top), (15, AV.top), (16, AV.top), (17, AV.top), (18, AV.top), (19, AV.top), (20, AV.top), (21, AV.top), (22, AV.top), (23, AV.top), (24, AV.top), (25, AV.top)]
  hp := [(47, OB.box 47 [AV.own 42, AV.own 45]), (42, OB.row 9 Ty.str w.1), (20, OB.box 27 [AV.val Ty.str.sl w.1, AV.val (Ty.int IntKind.i64) w.2.1, AV.val (Ty.int IntKind.i64).sl w.2.2]), (45, OB.row 4 Ty.bool (hereF w))]
  nx := 2019
  kv := [0, 1, 2, 3, 8, 9, 10, 11, 12, 13, 14, 15, 16, 17, 18, 19, 20, 21, 22, 23, 24, 25]
def teH (S0 : List ByteArray) (i0 : Int) (E0 : List Int) (A : List DAct) (w : DWay) (s : Nat × DWay) : AS :=
  headOf (teS S0 i0 E0 A w) 3000 x3_0d [(18, AV.val (.int .i64) (s.1 : Int))] []
    [(20, .box 27 [.val (.sl .str) s.2.1, .val (.int .i64) s.2.2.1, .val (.sl (.int .i64)) s.2.2.2]), (47, .box 47 [.own 42, .own 45]), (42, .row 9 .str s.2.1), (45, .row 4 .bool (hereF s.2))]
/-- A round of the last loop. -/
def teR (S0 : List ByteArray) (i0 : Int) (E0 : List Int) (A : List DAct) (w : DWay) (x : Nat × DWay) : Prop :=
  xwp Try.prog csTe 201 x3_0 (XQ.seq (fun s => ∃ x' : Nat × DWay, A.length - x'.1 < A.length - x.1 ∧ (x'.1 ≤ A.length ∧ IsRight x'.2 ∧ x'.2.1.length ≤ 30 + x'.1) ∧ leQ s (teH S0 i0 E0 A w x')) teK) (teH S0 i0 E0 A w x)
end T
end Go.Proofs.Ytiahbkjomegkiaa
