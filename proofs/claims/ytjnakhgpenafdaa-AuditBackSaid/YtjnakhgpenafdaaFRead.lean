/- audit.Read, as the print calls it. -/
import Derived.Test.YtjnakhgpenafdaaRda
namespace Go.Proofs.Ytjnakhgpenafdaa
open Go.RowKit Go.Proofs.YtjnakhgpenafdaaW.PrintWords
set_option linter.unusedVariables false
theorem aread.calls (A0 : Option Addr) (c0 : Nat) (l0 : List Int) (r1 r2 : Int) (r3 : ByteArray) (r4 : Int) (r5 r6 : ByteArray) (r7 r8 : Int) (r9 r10 : List Int) (r11 : Int) (w : World) (hr0 : Kd.C (Kd.int .u8) w A0 l0.length l0) (hc0 : l0.length ≤ c0) (h : aread.f l0 = some (r1, r2, r3, r4, r5, r6, r7, r8, r9, r10, r11)) :
    Calls Try.prog 24 #[.slice A0 l0.length c0] w fun e w' => ∃ v8_ v9_ : Value, e = .returned (.tuple #[.agg #[.int .u64 r1, .int .u64 r2, .string r3, .int .i64 r4, .string r5, .string r6, .int .u64 r7, .int .i64 r8, v8_, v9_], .int .i64 r11]) ∧ Kd.R (Kd.int .u8) 5 w' w.heap.size (fun k_ => some k_ ≠ v9_.ownBlock) v8_ r9 ∧ Kd.R (Kd.int .u8) 5 w' w.heap.size (fun k_ => some k_ ≠ v8_.ownBlock) v9_ r10 ∧ Below w.heap.size w w' := by
  unfold aread.f readsAs at h
  by_cases hg : okRead l0 = true
  · rw [if_pos hg] at h
    injection h with h
    unfold okRead at hg
    rw [Bool.and_eq_true, decide_eq_true_eq] at hg
    obtain ⟨⟨x1, B1, d1⟩, e1⟩ : ∃ o, uC (u8s l0) false = o := ⟨_, rfl⟩
    obtain ⟨⟨x2, B2, d2⟩, e2⟩ : ∃ o, uC B1 d1 = o := ⟨_, rfl⟩
    obtain ⟨⟨t3, B3, d3⟩, e3⟩ : ∃ o, sC 115 B2 d2 = o := ⟨_, rfl⟩
    obtain ⟨⟨x4, B4, d4⟩, e4⟩ : ∃ o, uC B3 d3 = o := ⟨_, rfl⟩
    obtain ⟨⟨t5, B5, d5⟩, e5⟩ : ∃ o, sC 115 B4 d4 = o := ⟨_, rfl⟩
    obtain ⟨⟨t6, B6, d6⟩, e6⟩ : ∃ o, sC 115 B5 d5 = o := ⟨_, rfl⟩
    obtain ⟨⟨x7, B7, d7⟩, e7⟩ : ∃ o, uC B6 d6 = o := ⟨_, rfl⟩
    obtain ⟨⟨x8, B8', d8⟩, e8⟩ : ∃ o, uC B7 d7 = o := ⟨_, rfl⟩
    obtain ⟨⟨b9, B9, d9⟩, e9⟩ : ∃ o, sC 98 B8' d8 = o := ⟨_, rfl⟩
    obtain ⟨⟨b10, B10, d10⟩, e10⟩ : ∃ o, sC 98 B9 d9 = o := ⟨_, rfl⟩
    have hf : fieldsOf (u8s l0) = ⟨x1, x2, t3, x4, t5, t6, x7, x8, b9, b10, B10, d10⟩ := by
      unfold fieldsOf
      simp only [e1, e2, e3, e4, e5, e6, e7, e8, e9, e10]
    rw [hf] at h
    refine (aread_walk (c := c0) (reads_u8 hr0 hg.1) (by omega) e1 e2 e3 e4 e5 e6 e7 e8 e9 e10).mono fun e w' hh => ?_
    rw [h] at hh
    exact hh
  · rw [if_neg hg] at h; cases h
end Go.Proofs.Ytjnakhgpenafdaa
