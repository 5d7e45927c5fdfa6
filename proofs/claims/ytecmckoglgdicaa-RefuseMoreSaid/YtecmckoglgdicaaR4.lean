/- Contracts of math/bits.Len32, refuse.grow and the reference's Find, by the walks. -/
import Derived.Test.YtecmckoglgdicaaR3
import Derived.StillTailTactics
namespace Go.Proofs.Ytecmckoglgdicaa
set_option linter.unusedVariables false
set_option linter.unusedSimpArgs false
open Go.RowKit Go.IntWalk
def tb : ByteArray := ⟨#[0, 1, 2, 2, 3, 3, 3, 3, 4, 4, 4, 4, 4, 4, 4, 4, 5, 5, 5, 5, 5, 5, 5, 5, 5, 5, 5, 5, 5, 5, 5, 5, 6, 6, 6, 6, 6, 6, 6, 6, 6, 6, 6, 6, 6, 6, 6, 6, 6, 6, 6, 6, 6, 6, 6, 6, 6, 6, 6, 6, 6, 6, 6, 6, 7, 7, 7, 7, 7, 7, 7, 7, 7, 7, 7, 7, 7, 7, 7, 7, 7, 7, 7, 7, 7, 7, 7, 7, 7, 7, 7, 7, 7, 7, 7, 7, 7, 7, 7, 7, 7, 7, 7, 7, 7, 7, 7, 7, 7, 7, 7, 7, 7, 7, 7, 7, 7, 7, 7, 7, 7, 7, 7, 7, 7, 7, 7, 7, 8, 8, 8, 8, 8, 8, 8, 8, 8, 8, 8, 8, 8, 8, 8, 8, 8, 8, 8, 8, 8, 8, 8, 8, 8, 8, 8, 8, 8, 8, 8, 8, 8, 8, 8, 8, 8, 8, 8, 8, 8, 8, 8, 8, 8, 8, 8, 8, 8, 8, 8, 8, 8, 8, 8, 8, 8, 8, 8, 8, 8, 8, 8, 8, 8, 8, 8, 8, 8, 8, 8, 8, 8, 8, 8, 8, 8, 8, 8, 8, 8, 8, 8, 8, 8, 8, 8, 8, 8, 8, 8, 8, 8, 8, 8, 8, 8, 8, 8, 8, 8, 8, 8, 8, 8, 8, 8, 8, 8, 8, 8, 8, 8, 8, 8, 8, 8, 8, 8, 8, 8, 8, 8, 8, 8, 8, 8, 8]⟩
set_option maxRecDepth 100000 in
theorem tb_at : ∀ (k : Nat) (h : k < tb.size), (tb[k]'h).toNat = len32 k := by
  have : ∀ k : Fin 256, (tb[k.1]'(show k.1 < 256 from k.2)).toNat = len32 k.1 := by decide +kernel
  exact fun k h => this ⟨k, h⟩
theorem len_shift {x s : Nat} (h : x / 2 ^ s ≠ 0) : len32 x = len32 (x / 2 ^ s) + s := by
  have hx : x ≠ 0 := fun e => h (by rw [e]; simp)
  unfold len32
  rw [if_neg hx, if_neg h]
  have h1 : 2 ^ (x / 2 ^ s).log2 ≤ x / 2 ^ s := Nat.log2_self_le h
  have h2 : x / 2 ^ s < 2 ^ ((x / 2 ^ s).log2 + 1) := Nat.lt_log2_self
  have h3 : 2 ^ ((x / 2 ^ s).log2 + s) ≤ x := by
    rw [Nat.pow_add]
    exact Nat.le_trans (Nat.mul_le_mul_right _ h1) (Nat.div_mul_le_self x (2 ^ s))
  have h4 : x < 2 ^ ((x / 2 ^ s).log2 + 1 + s) := by
    rw [Nat.pow_add]
    exact (Nat.div_lt_iff_lt_mul (Nat.two_pow_pos s)).1 h2
  have h5 := (Nat.le_log2 hx).2 h3
  have h6 := (Nat.log2_lt hx).2 h4
  omega
theorem w64 {n : Nat} (h : n < 1000000) : wrap64 (n : Int) = n := by
  unfold wrap64
  omega
theorem len32_lt {x : Nat} (h : x < 4294967296) : len32 x ≤ 32 := by
  unfold len32
  split
  · omega
  · rename_i h0
    have := (Nat.log2_lt h0).2 (show x < 2 ^ 32 from h)
    omega
theorem sh16 {x : Nat} (h : 65536 ≤ x) : len32 x = len32 (x / 65536) + 16 := by
  have := len_shift (x := x) (s := 16)
  simp only [Nat.reducePow] at this
  exact this (by omega)
theorem sh8 {x : Nat} (h : 256 ≤ x) : len32 x = len32 (x / 256) + 8 := by
  have := len_shift (x := x) (s := 8)
  simp only [Nat.reducePow] at this
  exact this (by omega)
theorem at_len {z c : Int} (h0 : 0 ≤ z) (h1 : z < 256) (hc : 0 ≤ c) (hc' : c ≤ 24) (h : z.toNat < tb.size) : wrap64 (c + wrap64 ((tb[z.toNat]'h).toNat : Int)) = c + len32 z.toNat := by
  have := len32_lt (x := z.toNat) (by omega)
  rw [tb_at, w64 (by omega)]
  unfold wrap64
  omega
theorem at_len0 {z : Int} (h0 : 0 ≤ z) (h1 : z < 256) (h : z.toNat < tb.size) : wrap64 (wrap64 ((tb[z.toNat]'h).toNat : Int)) = len32 z.toNat := by
  have := len32_lt (x := z.toNat) (by omega)
  rw [tb_at, w64 (by omega), w64 (by omega)]
set_option maxRecDepth 100000 in
theorem len32_any {w : World} (x : Int) (h0 : 0 ≤ x) (h1 : x < 4294967296) :
    Calls Try.prog 31 #[.int .u32 x] w fun e w' => e = .returned (.int .i64 (len32 x.toNat : Int)) ∧ w' = w := by
  go_enter Try.func31, Try.ntmps31
  go_wp2
  all_goals refine bodyPost_ret (results_tmp rfl _ _ _) rfl ?_
  all_goals refine ⟨congrArg (fun z => Ending.returned (Value.int IntKind.i64 z)) ?_, rfl⟩
  · refine (at_len (z := x / 65536 / 256) (c := 24) (by omega) (by omega) (by omega) (by omega) _).trans ?_
    rw [sh16 (x := x.toNat) (by omega), sh8 (x := x.toNat / 65536) (by omega), show (x / 65536 / 256).toNat = x.toNat / 65536 / 256 by omega]
    omega
  · refine (at_len (z := x / 65536) (c := 16) (by omega) (by omega) (by omega) (by omega) _).trans ?_
    rw [sh16 (x := x.toNat) (by omega), show (x / 65536).toNat = x.toNat / 65536 by omega]
    omega
  · refine (at_len (z := x / 256) (c := 8) (by omega) (by omega) (by omega) (by omega) _).trans ?_
    rw [sh8 (x := x.toNat) (by omega), show (x / 256).toNat = x.toNat / 256 by omega]
    omega
  · exact at_len0 (z := x) (by omega) (by omega) _
namespace T
def entLen : Ent := ⟨31, .cons (.int .u32) .nil, (.int .i64), false, none, fun _ => True, fun x => (len32 (Int.toNat x.1) : Int)⟩
theorem conLen : Con Try.prog entLen := by
  refine ⟨by kernel_rfl, ?_⟩
  rintro ⟨(x : Int), _⟩ _ w M vs hM ⟨v, _, rfl, q, rfl⟩
  obtain ⟨rfl, h0, h1⟩ := avr_int (hp := fun _ => none) (ψ := fun _ => undef) q
  have h0' : (0 : Int) ≤ x := h0
  have h1' : (x : Int) ≤ 4294967295 := h1
  refine (len32_any x h0' (by omega)).mono ?_
  rintro e w' ⟨rfl, rfl⟩
  refine ⟨_, rfl, Below.refl _ _, int_avr (hp := fun _ => none) (ψ := fun _ => undef) ?_⟩
  have := len32_lt (x := Int.toNat x) (by omega)
  show (-9223372036854775808 : Int) ≤ (len32 (Int.toNat x) : Int) ∧ (len32 (Int.toNat x) : Int) ≤ 9223372036854775807
  omega
end T
end Go.Proofs.Ytecmckoglgdicaa
