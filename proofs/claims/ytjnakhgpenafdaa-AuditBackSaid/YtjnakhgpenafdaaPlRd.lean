/- Plain words on what is read: a record that is read is right in all its parts. -/
import Derived.Test.YtjnakhgpenafdaaPl14
import Derived.Test.YtjnakhgpenafdaaRdp
namespace Go.Proofs.Ytjnakhgpenafdaa
open Go.RowKit Go.Proofs.YtjnakhgpenafdaaW.PrintWords Go.Proofs.Ytjnakhgpenafdaa.P14
set_option linter.unusedVariables false
set_option linter.unusedSimpArgs false
theorem wf_u64_of {x : Int} (h : 0 ≤ x ∧ x < 18446744073709551616) : (Lit.int .u64 x).wf = true := by
  simp [Lit.wf, IntKind.min, IntKind.max, IntKind.signed, IntKind.bits]; omega
theorem wf_i64_of {x : Int} (h : 0 ≤ x ∧ x < 9223372036854775808) : (Lit.int .i64 x).wf = true := by
  simp [Lit.wf, IntKind.min, IntKind.max, IntKind.signed, IntKind.bits]; omega
theorem wf_u8_mem {l : List Int} (h : ok8 l = true) : ∀ y ∈ l, (Lit.int .u8 y).wf = true := by
  intro y hy
  unfold ok8 at h
  rw [List.all_eq_true] at h
  have := h y hy
  simp [Lit.wf, IntKind.min, IntKind.max, IntKind.signed, IntKind.bits] at this ⊢
  omega
/-- the record of what a Read hands back -/
def s27 (o : AR) : S27 := ⟨o.1, o.2.1, o.2.2.1, o.2.2.2.1, o.2.2.2.2.1, o.2.2.2.2.2.1, o.2.2.2.2.2.2.1, o.2.2.2.2.2.2.2.1, o.2.2.2.2.2.2.2.2.1, o.2.2.2.2.2.2.2.2.2.1⟩
structure NumFs (f : Fs) : Prop where
  s : f.s < 18446744073709551616
  c : f.c < 18446744073709551616
  v : f.v < 18446744073709551616
theorem fieldsOf_num (B : List UInt8) : NumFs (fieldsOf B) := by
  unfold fieldsOf
  exact ⟨uC_lt _ _, uC_lt _ _, uC_lt _ _⟩
theorem okS_rec {f : Fs} (h : NumFs f) : OkS (s27 (recOf f)) := by
  unfold recOf
  by_cases g : goodFs f = true
  · rw [if_pos g]
    unfold goodFs at g
    rw [Bool.and_eq_true] at g
    have r := g.2
    unfold rightFs at r
    rw [Bool.and_eq_true, Bool.and_eq_true] at r
    obtain ⟨r1, r2, r3⟩ := r
    unfold restB at r1
    rw [decide_eq_true_eq] at r1
    unfold sumB at r2
    unfold prevB at r3
    simp only [Bool.or_eq_true, Bool.and_eq_true, decide_eq_true_eq] at r2 r3
    have e1 : (⟨f.who.toArray⟩ : ByteArray).size = f.who.length := by simp [ByteArray.size]
    have e2 : (⟨f.bu.toArray⟩ : ByteArray).size = f.bu.length := by simp [ByteArray.size]
    have e3 : (⟨f.ke.toArray⟩ : ByteArray).size = f.ke.length := by simp [ByteArray.size]
    have h1 := h.s; have h2 := h.c; have h3 := h.v
    refine ⟨⟨wf_u64_of (by show (0 : Int) ≤ (f.s : Int) ∧ (f.s : Int) < _; omega), wf_u64_of (by show (0 : Int) ≤ (f.c : Int) ∧ (f.c : Int) < _; omega), ?_, wf_i64_of (by show (0 : Int) ≤ (f.k : Int) ∧ (f.k : Int) < _; omega), ?_, ?_, wf_u64_of (by show (0 : Int) ≤ (f.v : Int) ∧ (f.v : Int) < _; omega), wf_i64_of (by show (0 : Int) ≤ (f.e : Int) ∧ (f.e : Int) < _; omega), ⟨?_, wf_u8_mem (ok8_i8s _)⟩, ⟨?_, wf_u8_mem (ok8_i8s _)⟩⟩, ?_⟩
    · show ByteArray.size ⟨f.who.toArray⟩ ≤ _; rw [e1]; omega
    · show ByteArray.size ⟨f.bu.toArray⟩ ≤ _; rw [e2]; omega
    · show ByteArray.size ⟨f.ke.toArray⟩ ≤ _; rw [e3]; omega
    · show (i8s f.sum).length * 1 ≤ _; rw [i8s_length]; omega
    · show (i8s f.prev).length * 1 ≤ _; rw [i8s_length]; omega
    · show ByteArray.size ⟨f.who.toArray⟩ + ByteArray.size ⟨f.bu.toArray⟩ + ByteArray.size ⟨f.ke.toArray⟩ + (i8s f.sum).length + (i8s f.prev).length ≤ 5000
      rw [e1, e2, e3, i8s_length, i8s_length]
      omega
  · rw [if_neg g]
    refine ⟨⟨by decide, by decide, by decide, by decide, by decide, by decide, by decide, by decide, ⟨by decide, by simp [zeroR, s27]⟩, ⟨by decide, by simp [zeroR, s27]⟩⟩, by decide⟩
theorem sameS_self (x : S27) : sameS x x = true := by unfold sameS; simp
theorem okRead_wf {l : List Int} (h : ∀ y ∈ l, (Lit.int .u8 y).wf = true) (hl : l.length ≤ 100000000) : okRead l = true := by
  unfold okRead
  rw [wf_u8s h, decide_eq_true hl]; rfl
end Go.Proofs.Ytjnakhgpenafdaa
