/- The plain mathematics of layer 22 (refuse): valid options; machine words. -/
import Derived.Test.YtecmckoglgdicaaPlainRefuse2
import Derived.IntWalk
namespace Go.Proofs.Ytecmckoglgdicaa
set_option linter.unusedSimpArgs false
set_option linter.unusedVariables false
open Go.IntWalk
def incB (n : Int) : Int → List Int → Bool
  | _, [] => true
  | f, x :: r => decide (f ≤ x) && (decide (x < n) && incB n (x + 1) r)
theorem incB_iff {n : Int} : ∀ {l : List Int} {f : Int}, incB n f l = true ↔ Inc n f l
  | [], _ => by simp [incB, Inc]
  | x :: r, f => by simp [incB, Inc, incB_iff (l := r)]
def rightO (n : Int) (opts : List (List Int)) : Bool := decide (0 ≤ n) && decide (n ≤ 20) && decide (opts.length ≤ 400) && opts.all (incB n 0)
/-- The element before the k-th. -/
def bef (o : List Int) (k : Nat) : Int := if k = 0 then -1 else o.getD (k - 1) 0
theorem bef_succ (o : List Int) (k : Nat) : bef o (k + 1) = o.getD k 0 := by simp [bef]
theorem drop_getD {α : Type} {d : α} {o : List α} {k : Nat} (h : k < o.length) : o.drop k = o.getD k d :: o.drop (k + 1) := by
  rw [List.drop_eq_getElem_cons h, List.getD_eq_getElem?_getD, List.getElem?_eq_getElem h]; rfl
theorem take_getD {α : Type} {d : α} {o : List α} {k : Nat} (h : k < o.length) : o.take (k + 1) = o.take k ++ [o.getD k d] := by
  rw [List.take_succ_eq_append_getElem h, List.getD_eq_getElem?_getD, List.getElem?_eq_getElem h]; rfl
theorem incB_step {n f : Int} {o : List Int} {k : Nat} (h : k < o.length) : incB n f (o.drop k) = (decide (f ≤ o.getD k 0) && (decide (o.getD k 0 < n) && incB n (o.getD k 0 + 1) (o.drop (k + 1)))) := by
  rw [drop_getD (d := 0) h]; rfl
theorem all_take {α : Type} {d : α} {p : α → Bool} {l : List α} {k : Nat} (h : k < l.length) (hb : p (l.getD k d) = false) : l.all p = false := by
  rw [← Bool.not_eq_true, List.all_eq_true]
  intro q
  have := q (l.getD k d) (by rw [List.getD_eq_getElem?_getD, List.getElem?_eq_getElem h]; exact List.getElem_mem h)
  rw [hb] at this; cases this
theorem all_done {α : Type} {d : α} {p : α → Bool} {l : List α} (h : ∀ k, k < l.length → p (l.getD k d) = true) : l.all p = true := by
  rw [List.all_eq_true]
  intro x hx
  obtain ⟨i, hi, e⟩ := List.getElem_of_mem hx
  have := h i hi
  rw [List.getD_eq_getElem?_getD, List.getElem?_eq_getElem hi] at this
  simpa [e] using this
theorem getD_mem {α : Type} {d : α} {l : List α} {k : Nat} (h : k < l.length) : l.getD k d ∈ l := by
  rw [List.getD_eq_getElem?_getD, List.getElem?_eq_getElem h]; exact List.getElem_mem h
theorem u32_wrap {n : Nat} (h : n < 4294967296) : IntKind.u32.wrap (n : Int) = n := by
  have e : IntKind.u32.wrap (n : Int) = (n : Int) % 4294967296 := rfl
  rw [e]; omega
theorem u32_and {a b : Nat} (ha : a < 4294967296) (hb : b < 4294967296) : IntKind.u32.wrap (BitVec.ofInt IntKind.u32.bits (a : Int) &&& BitVec.ofInt IntKind.u32.bits (b : Int)).toNat = ((a &&& b : Nat) : Int) := by
  have e : (BitVec.ofInt IntKind.u32.bits (a : Int) &&& BitVec.ofInt IntKind.u32.bits (b : Int)).toNat = a &&& b := by
    show (BitVec.ofInt 32 (a : Int) &&& BitVec.ofInt 32 (b : Int)).toNat = a &&& b
    simp [BitVec.toNat_and, BitVec.ofInt_natCast, Nat.mod_eq_of_lt ha, Nat.mod_eq_of_lt hb]
  rw [e, u32_wrap (Nat.lt_of_le_of_lt Nat.and_le_left ha)]
theorem u32_or {a b : Nat} (ha : a < 4294967296) (hb : b < 4294967296) : IntKind.u32.wrap (BitVec.ofInt IntKind.u32.bits (a : Int) ||| BitVec.ofInt IntKind.u32.bits (b : Int)).toNat = ((a ||| b : Nat) : Int) := by
  have e : (BitVec.ofInt IntKind.u32.bits (a : Int) ||| BitVec.ofInt IntKind.u32.bits (b : Int)).toNat = a ||| b := by
    show (BitVec.ofInt 32 (a : Int) ||| BitVec.ofInt 32 (b : Int)).toNat = a ||| b
    simp [BitVec.toNat_or, BitVec.ofInt_natCast, Nat.mod_eq_of_lt ha, Nat.mod_eq_of_lt hb]
  rw [e, u32_wrap (Nat.or_lt_two_pow (n := 32) ha hb)]
theorem u32_shl {i : Int} (h0 : 0 ≤ i) (h : i < 30) : IntKind.u32.wrap (1 * 2 ^ (Nat.min i.toNat IntKind.u32.bits)) = ((2 ^ i.toNat : Nat) : Int) := by
  have e1 : IntKind.u32.bits = 32 := rfl
  rw [e1, show Nat.min i.toNat 32 = i.toNat from Nat.min_eq_left (by omega), Int.one_mul]
  have e2 : ((2 : Int) ^ i.toNat) = ((2 ^ i.toNat : Nat) : Int) := by simp
  rw [e2, u32_wrap]
  exact Nat.lt_of_lt_of_le (Nat.pow_lt_pow_right (by omega) (show i.toNat < 30 by omega)) (by decide)
theorem u32_shr {a : Nat} {i : Int} (h0 : 0 ≤ i) (h : i < 30) : Int.fdiv (a : Int) (2 ^ (Nat.min i.toNat IntKind.u32.bits)) = ((a >>> i.toNat : Nat) : Int) := by
  have e1 : IntKind.u32.bits = 32 := rfl
  rw [e1, show Nat.min i.toNat 32 = i.toNat from Nat.min_eq_left (by omega), Nat.shiftRight_eq_div_pow]
  have e2 : ((2 : Int) ^ i.toNat) = ((2 ^ i.toNat : Nat) : Int) := by simp
  rw [e2, Int.fdiv_eq_ediv_of_nonneg _ (Int.natCast_nonneg _)]
  simp
theorem i64_bit {m k : Nat} (hm : m < 9223372036854775808) (hk : k < 60) : (IntKind.i64.wrap (BitVec.ofInt IntKind.i64.bits ((m : Int).fdiv (2 ^ (Nat.min k IntKind.i64.bits))) &&& BitVec.ofInt IntKind.i64.bits 1).toNat = 1) ↔ m.testBit k = true := by
  have e1 : IntKind.i64.bits = 64 := rfl
  have e2 : ((2 : Int) ^ k) = ((2 ^ k : Nat) : Int) := by simp
  have e3 : (m : Int).fdiv (2 ^ (Nat.min k IntKind.i64.bits)) = ((m / 2 ^ k : Nat) : Int) := by
    rw [e1, show Nat.min k 64 = k from Nat.min_eq_left (by omega), e2, Int.fdiv_eq_ediv_of_nonneg _ (Int.natCast_nonneg _)]
    simp
  have hd : m / 2 ^ k < 18446744073709551616 := Nat.lt_of_le_of_lt (Nat.div_le_self _ _) (by omega)
  have e4 : (BitVec.ofInt IntKind.i64.bits ((m / 2 ^ k : Nat) : Int) &&& BitVec.ofInt IntKind.i64.bits 1).toNat = m / 2 ^ k % 2 := by
    show (BitVec.ofInt 64 ((m / 2 ^ k : Nat) : Int) &&& BitVec.ofInt 64 ((1 : Nat) : Int)).toNat = _
    rw [BitVec.ofInt_natCast, BitVec.ofInt_natCast, BitVec.toNat_and, BitVec.toNat_ofNat, BitVec.toNat_ofNat, Nat.mod_eq_of_lt hd]
    exact Nat.and_one_is_mod _
  rw [e3, e4, i64_in _ (by omega), Nat.testBit_eq_decide_div_mod_eq]
  simp only [decide_eq_true_eq]
  omega
end Go.Proofs.Ytecmckoglgdicaa
