/- Numbers out of bytes, and small words on worlds, for both readers. -/
import Derived.Test.YtjnakhgpenafdaaGA
import Derived.Test.YtjnakhgpenafdaaGS
import Derived.Test.YtjnakhgpenafdaaGR
import Derived.IntWalk
import Derived.Deep.RegionHeld3
import Derived.BigQuiet
namespace Go.Proofs.Ytjnakhgpenafdaa
open Go.RowKit
set_option linter.unusedVariables false
set_option linter.unusedSimpArgs false
namespace Cn
/-- a number out of bytes, the highest first -/
def num (l : List UInt8) : Nat := l.foldl (fun n b => n * 256 + b.toNat) 0
theorem num_snoc (l : List UInt8) (b : UInt8) : num (l ++ [b]) = num l * 256 + b.toNat := by simp [num, List.foldl_append]
theorem num_from : ∀ (l : List UInt8) (a : Nat), l.foldl (fun n b => n * 256 + b.toNat) a < (a + 1) * 256 ^ l.length
  | [], a => by simp
  | b :: l, a => by
    have ih := num_from l (a * 256 + b.toNat)
    have hb := b.toNat_lt
    rw [List.foldl_cons, List.length_cons, Nat.pow_succ]
    refine Nat.lt_of_lt_of_le ih ?_
    rw [Nat.mul_comm (256 ^ l.length) 256, ← Nat.mul_assoc]
    exact Nat.mul_le_mul_right _ (by omega)
theorem num_lt (l : List UInt8) : num l < 256 ^ l.length := by have := num_from l 0; simpa [num] using this
/-- the number behind a sign, if there is one -/
def head (sign : UInt8) (many : Nat) (l : List UInt8) : Option Nat := if many < l.length ∧ l.getD 0 0 = sign then some (num ((l.drop 1).take many)) else none
end Cn
theorem only_set {w : World} {w1 : World} {g : Nat} (h : w.grownBy w1 (some g)) (i : Nat) (u : Value) : w.grownBy (w1.setCell ⟨g, i, none⟩ u) (some g) := only_setCell h (.inl rfl) u
theorem dr_grown {w w' : World} (h : Dr w w') (row : Option Nat) : w.grownBy w' row := by obtain ⟨k, rfl⟩ := h; exact only_drewN (World.grownBy.refl w row) k

theorem grown_cell {w w' : World} {row : Option Nat} (h : w.grownBy w' row) {q : Addr} {v : Value} (hc : w.cell? q = some v) (hne : some q.block ≠ row) : w'.cell? q = some v :=
  (World.cell?_of_block (h.block q.block (World.block_lt_of_cell? w q hc) hne)).trans hc
theorem only_then {a w w' : World} {g : Nat} {row : Option Nat} (h : a.grownBy w (some g)) (k : w.grownBy w' row) (hr : ∀ j, row = some j → j = g ∨ a.heap.size ≤ j) : a.grownBy w' (some g) :=
  ⟨k.os.trans h.os, k.tape.trans h.tape, k.output.trans h.output, Nat.le_trans h.size k.size, fun i hi hne => (k.block i (Nat.lt_of_lt_of_le hi h.size) (fun e => (hr i e.symm).elim (fun e2 => hne (by rw [e2])) (fun e2 => by omega))).trans (h.block i hi hne)⟩
theorem own_far {w : World} {base n : Nat} {e : TypeId} {v : Value} {xs : List Value} (h : w.ownsRow base e 1 v n xs) {q : Addr} {u : Value} (hne : v.ownBlock ≠ some q.block) : (w.setCell q u).ownsRow base e 1 v n xs := by
  refine ⟨h.1, ?_⟩
  rcases h.2 with h2 | ⟨g', cap, cur, rfl, hg, hh, r⟩
  · exact .inl h2
  · refine .inr ⟨g', cap, cur, rfl, hg, ?_, r⟩
    exact (Below.heap_setCell w q u g' (fun e => hne (by simp [Value.ownBlock, e]))).trans hh
theorem num_step {B : List UInt8} {p k : Nat} (h : p + 1 + k < B.length) : Cn.num ((B.drop (p + 1)).take (k + 1)) = Cn.num ((B.drop (p + 1)).take k) * 256 + (B.getD (p + 1 + k) 0).toNat := by
  have hl : k < (B.drop (p + 1)).length := by rw [List.length_drop]; omega
  rw [List.take_succ_eq_append_getElem hl, Cn.num_snoc, List.getElem_drop, List.getD_eq_getElem?_getD, List.getElem?_eq_getElem h]
  rfl
theorem num_small (l : List UInt8) {k : Nat} (hk : k < 8) : Cn.num (l.take k) * 256 + 255 < 18446744073709551616 := by
  have h1 := Cn.num_lt (l.take k)
  have h2 : 256 ^ (l.take k).length ≤ 256 ^ 7 := Nat.pow_le_pow_right (by omega) (by rw [List.length_take]; omega)
  have h3 : (256 : Nat) ^ 7 = 72057594037927936 := by decide
  omega
theorem nil_row (w : World) (base : Nat) : w.ownsRow base 5 1 (.slice none 0 0) 0 (B8 []) := World.ownsRow_nil _ _ _ _
theorem cut_run {w : World} {b : Nat} {A : Option Addr} {n c : Nat} {B : List UInt8} (lo hi : Nat) (h : Reads w b 1 A n (B8 B)) (h1 : lo ≤ hi) (h2 : hi ≤ n) (hc : n ≤ c) :
    ∃ A' : Option Addr, (∀ W : World, (Instr.slice 25 (.slice A n c) (some (.int .i64 (lo : Int))) (some (.int .i64 (hi : Int))) none).run Try.prog W = .ok (.slice A' (hi - lo) (c - lo)) W) ∧ Reads w b 1 A' (hi - lo) (B8 ((B.drop lo).take (hi - lo))) := by
  obtain ⟨i0, hi0, hz0, hz1, hz2⟩ := info_parts info_u8
  have hl := h.bytes_length
  refine ⟨if c = lo then A else A.map (·.add lo), fun W => ?_, ?_⟩
  · have hel : Try.prog.elem 25 = 5 := by simp [Program.elem, Try.underlying25]
    have hu : Try.prog.underlying 25 = some (.slice (Try.prog.elem 25)) := by rw [hel]; exact Try.underlying25
    rw [run_slice_lh W 25 A n c hu .i64 .i64 (lo : Int) (hi : Int) (by omega) (by omega) (by omega), hel]
    simp [sizeOf, typeInfo, hi0, hz1, sliced, Result.andThen]
  · have h3 := h.cut (k := lo) (cap := c) (by omega) hc
    rw [Nat.mul_one] at h3
    refine ⟨by rw [B8_length, List.length_take, List.length_drop]; omega, fun hp => ?_⟩
    obtain ⟨ad, he, hb, hcell⟩ := h3.2 (by omega)
    refine ⟨ad, he, hb, fun j u hu => hcell j u ?_⟩
    rw [← hu]
    unfold B8
    rw [List.map_take, List.map_drop, List.getElem?_take]
    have hj : j < hi - lo := by
      have := (List.getElem?_eq_some_iff.1 hu).1
      rw [B8_length, List.length_take] at this
      omega
    rw [if_pos hj]
end Go.Proofs.Ytjnakhgpenafdaa
