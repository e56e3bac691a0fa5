/- What is shown is read again, and what is read is what was shown: plain Lean. -/
import Derived.Test.YtjnakhgpenafdaaRdp
namespace Go.Proofs.Ytjnakhgpenafdaa
set_option linter.unusedVariables false
namespace Cn
theorem be_succ (n m : Nat) : be n (m + 1) = be (n / 256) m ++ [byte n] := by
  unfold be
  rw [List.range_succ, List.map_append]
  congr 1
  · refine List.map_congr_left fun j hj => ?_
    have hj := List.mem_range.1 hj
    rw [Nat.div_div_eq_div_mul, show (256 : Nat) = 2 ^ 8 by decide, ← Nat.pow_add, show 8 * (m + 1 - 1 - j) = 8 + 8 * (m - 1 - j) by omega]
  · simp
theorem num_be : ∀ (m n : Nat), num (be n m) = n % 256 ^ m
  | 0, n => by simp [be, num, Nat.mod_one]
  | m + 1, n => by
    rw [be_succ, num_snoc, num_be m]
    have h : (byte n).toNat = n % 256 := by simp [byte]
    rw [h, Nat.pow_succ, Nat.mul_comm (256 ^ m) 256, Nat.mod_mul]
    omega
theorem be_num : ∀ (m : Nat) (l : List UInt8), l.length = m → be (num l) m = l
  | 0, l, h => by rw [List.length_eq_zero_iff.1 h]; rfl
  | m + 1, l, h => by
    rcases List.eq_nil_or_concat l with rfl | ⟨L, b, rfl⟩
    · simp at h
    · rw [List.concat_eq_append] at h ⊢
      have hb := b.toNat_lt
      rw [be_succ, num_snoc, show (num L * 256 + b.toNat) / 256 = num L by omega, be_num m L (by simpa using h)]
      congr 2
      unfold byte
      apply UInt8.toNat_inj.1
      rw [UInt8.toNat_ofNat']
      omega
/-- a number, shown -/
def uP (n : Nat) : List UInt8 := 117 :: be n 8
/-- bytes behind a sign, shown -/
def sP (s : UInt8) (b : List UInt8) : List UInt8 := s :: be b.length 4 ++ b
theorem uint_eq (out : List UInt8) (n : Nat) : uint out n = out ++ uP n := by simp [uint, part, uP]
theorem text_eq (out b : List UInt8) : text out b = out ++ sP 115 b := by simp [text, part, sP]
theorem bytes_eq (out b : List UInt8) : bytes out b = out ++ sP 98 b := by simp [bytes, part, sP]
end Cn
open Cn
theorem uC_show {n : Nat} (R : List UInt8) (h : n < 18446744073709551616) : uC (uP n ++ R) false = (n, R, false) := by
  have hb := be_length n 8
  have ht : ((uP n ++ R).drop 1).take 8 = be n 8 := by
    show (be n 8 ++ R).take 8 = _
    rw [List.take_append_of_le_length (by omega), List.take_of_length_le (by omega)]
  have hd : (uP n ++ R).drop 9 = R := by
    show (be n 8 ++ R).drop 8 = R
    rw [List.drop_append_of_le_length (by omega), List.drop_of_length_le (by omega), List.nil_append]
  have hl : (uP n ++ R).length = 9 + R.length := by simp [uP, be_length]; omega
  have ho : headOk (uP n ++ R) false 117 8 = true := by
    unfold headOk
    rw [hl, decide_eq_true (by omega)]
    rfl
  unfold uC
  rw [if_pos ho, ht, hd, num_be, Nat.mod_eq_of_lt (by simpa using h)]
theorem sC_show {s : UInt8} {b : List UInt8} (R : List UInt8) (h : b.length < 4294967296) : sC s (sP s b ++ R) false = (b, R, false) := by
  have hb := be_length b.length 4
  have e : sP s b ++ R = s :: (be b.length 4 ++ (b ++ R)) := by simp [sP]
  rw [e]
  have ht : ((s :: (be b.length 4 ++ (b ++ R))).drop 1).take 4 = be b.length 4 := by
    show (be b.length 4 ++ (b ++ R)).take 4 = _
    rw [List.take_append_of_le_length (by omega), List.take_of_length_le (by omega)]
  have hd : (s :: (be b.length 4 ++ (b ++ R))).drop 5 = b ++ R := by
    show (be b.length 4 ++ (b ++ R)).drop 4 = _
    rw [List.drop_append_of_le_length (by omega), List.drop_of_length_le (by omega), List.nil_append]
  have hl : (s :: (be b.length 4 ++ (b ++ R))).length = 5 + b.length + R.length := by simp [be_length]; omega
  have ho : headOk (s :: (be b.length 4 ++ (b ++ R))) false s 4 = true := by
    unfold headOk
    rw [hl, decide_eq_true (by omega)]
    simp
  have hn : num (be b.length 4) = b.length := by rw [num_be, Nat.mod_eq_of_lt (by simpa using h)]
  unfold sC
  rw [if_pos ho, ht, hn, hl, if_pos (by omega), hd, List.take_append_of_le_length (by omega), List.take_of_length_le (by omega), ← List.drop_drop, hd,
    List.drop_append_of_le_length (by omega), List.drop_of_length_le (by omega), List.nil_append]
theorem head_cons {B : List UInt8} {bad : Bool} {s : UInt8} {k : Nat} (h : headOk B bad s k = true) : bad = false ∧ ∃ R, B = s :: R ∧ k ≤ R.length := by
  unfold headOk at h
  rw [Bool.and_eq_true, Bool.and_eq_true, decide_eq_true_eq, decide_eq_true_eq] at h
  obtain ⟨h1, h2, h3⟩ := h
  cases B with
  | nil => simp at h2
  | cons x R =>
    simp only [List.length_cons] at h2
    simp at h3
    exact ⟨by simpa using h1, R, by rw [h3], by omega⟩
theorem uC_back {B B' : List UInt8} {bad : Bool} {x : Nat} (h : uC B bad = (x, B', false)) : bad = false ∧ B = uP x ++ B' := by
  unfold uC at h
  by_cases ho : headOk B bad 117 8 = true
  · rw [if_pos ho] at h
    obtain ⟨hb, R, rfl, hR⟩ := head_cons ho
    simp only [Prod.mk.injEq] at h
    obtain ⟨h1, h2, h3⟩ := h
    refine ⟨hb, ?_⟩
    have e1 : (117 :: R).drop 1 = R := rfl
    have e2 : (117 :: R).drop 9 = R.drop 8 := rfl
    rw [e1] at h1
    rw [e2] at h2
    have e3 : be x 8 = R.take 8 := by rw [← h1]; exact be_num 8 _ (by rw [List.length_take]; omega)
    unfold uP
    rw [e3, ← h2, List.cons_append, List.take_append_drop]
  · rw [if_neg ho] at h
    simp at h
theorem sC_back {s : UInt8} {B B' x : List UInt8} {bad : Bool} (h : sC s B bad = (x, B', false)) : bad = false ∧ B = sP s x ++ B' := by
  unfold sC at h
  by_cases ho : headOk B bad s 4 = true
  · rw [if_pos ho] at h
    obtain ⟨hb, R, rfl, hR⟩ := head_cons ho
    have e1 : (s :: R).drop 1 = R := rfl
    have e2 : (s :: R).drop 5 = R.drop 4 := rfl
    rw [e1, e2, ← List.drop_drop, e2] at h
    by_cases hl : num (R.take 4) ≤ (s :: R).length - 5
    · rw [if_pos hl] at h
      simp only [Prod.mk.injEq] at h
      obtain ⟨h1, h2, h3⟩ := h
      refine ⟨hb, ?_⟩
      have hx : x.length = num (R.take 4) := by rw [← h1, List.length_take, List.length_drop]; simp only [List.length_cons] at hl; omega
      have e3 : be x.length 4 = R.take 4 := by rw [hx]; exact be_num 4 _ (by rw [List.length_take]; omega)
      unfold sP
      rw [e3, ← h2, ← h1]
      simp only [List.cons_append, List.append_assoc, List.take_append_drop]
    · rw [if_neg hl] at h
      simp at h
  · rw [if_neg ho] at h
    simp at h
end Go.Proofs.Ytjnakhgpenafdaa
