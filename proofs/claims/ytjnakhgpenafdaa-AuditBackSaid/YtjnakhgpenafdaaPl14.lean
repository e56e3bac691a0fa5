/- Plain words on records: what light, Show, Digest, Same and Right of both texts answer. -/
import Derived.Test.YtjnakhgpenafdaaP14K
import Derived.Test.YtjnakhgpenafdaaP14x1
import Derived.Test.YtjnakhgpenafdaaP14x5
import Derived.Test.YtjnakhgpenafdaaGT
import Derived.OpenShut
namespace Go.Proofs.Ytjnakhgpenafdaa
open Go.RowKit Go.Proofs.YtjnakhgpenafdaaW.PrintWords Go.Proofs.Ytjnakhgpenafdaa.P14
set_option linter.unusedVariables false
set_option linter.unusedSimpArgs false

theorem ite_some (p : Prop) [Decidable p] (b : Bool) : (if p then some b else some false) = some (decide p && b) := by
  by_cases h : p
  · rw [if_pos h, decide_eq_true h]; rfl
  · rw [if_neg h, decide_eq_false h]; rfl
theorem rd_at {l : List S27} (z : S27) {j : Nat} (h : j < l.length) : rd_T27 l (j : Int) = l[j] := by
  unfold rd_T27
  rw [Int.toNat_natCast, List.getD_eq_getElem?_getD, List.getElem?_eq_getElem h]
  rfl
/-- how much there is of a record -/
def sz (x : S27) : Nat := x.f2.size + x.f4.size + x.f5.size + x.f8.length + x.f9.length
def smallS (x : S27) : Bool := decide (sz x ≤ 5000)
theorem wsum {a b c d e : Nat} (h1 : a ≤ 140737488351232) (h2 : b ≤ 140737488351232) (h3 : c ≤ 140737488351232) (h4 : d ≤ 140737488351232) (h5 : e ≤ 140737488351232) :
    wrap64 ((wrap64 ((wrap64 ((wrap64 ((a : Int) + (b : Int))) + (c : Int))) + (d : Int))) + (e : Int)) = ((a + b + c + d + e : Nat) : Int) := by
  unfold wrap64
  omega
theorem wrap_succ {j n : Nat} (h : j < n) (hn : n ≤ 140737488351232) : wrap64 ((j : Int) + 1) = ((j + 1 : Nat) : Int) := by
  unfold wrap64
  omega
theorem light_from (l : List S27) (hw : ∀ x ∈ l, wf27 x) (hl : l.length ≤ 140737488351232) : ∀ (d k j : Nat), j + d = l.length → d < k → stelelaw14_light.l0 k l (j : Int) = some ((l.drop j).all smallS && decide (l.length ≤ 100)) := by
  intro d
  induction d with
  | zero =>
    intro k j hj hk
    obtain ⟨k, rfl⟩ : ∃ m, k = m + 1 := ⟨k - 1, by omega⟩
    rw [stelelaw14_light.l0, if_neg (by omega), List.drop_of_length_le (by omega)]
    simp
    omega
  | succ d ih =>
    intro k j hj hk
    obtain ⟨k, rfl⟩ : ∃ m, k = m + 1 := ⟨k - 1, by omega⟩
    have hjl : j < l.length := by omega
    obtain ⟨_, _, s2, _, s4, s5, _, _, ⟨s8, _⟩, ⟨s9, _⟩⟩ := hw _ (List.getElem_mem hjl)
    rw [stelelaw14_light.l0, if_pos (by omega), if_pos (by omega), rd_at z27 hjl, wsum s2 s4 s5 (by omega) (by omega), wrap_succ hjl hl, ih k (j + 1) (by omega) (by omega), List.drop_eq_getElem_cons hjl, List.all_cons]
    by_cases h : sz l[j] ≤ 5000
    · rw [if_neg (by unfold sz at h; omega)]
      have : smallS l[j] = true := decide_eq_true h
      rw [this]; rfl
    · rw [if_pos (by unfold sz at h; omega)]
      have : smallS l[j] = false := decide_eq_false h
      rw [this]; rfl
def lightB (l : List S27) : Bool := l.all smallS && decide (l.length ≤ 100)
theorem light_f {l : List S27} (hw : ∀ x ∈ l, wf27 x) (hl : l.length ≤ 140737488351232) {k : Nat} (hk : l.length < k) : stelelaw14_light.f k l = some (lightB l) := by
  have := light_from l hw hl l.length k 0 (by omega) hk
  rw [List.drop_zero] at this
  exact this

theorem wf_u8s {l : List Int} (h : ∀ y ∈ l, (Lit.int .u8 y).wf = true) : ok8 l = true := ok8_of fun y hy => bounds_u8 (h y hy)
theorem okRec_wf {x : S27} (hw : wf27 x) (hs : sz x ≤ 5000) : okRec x.f0 x.f1 x.f2 x.f3 x.f4 x.f5 x.f6 x.f7 x.f8 x.f9 = true := by
  obtain ⟨w0, w1, s2, w3, s4, s5, w6, w7, ⟨s8, w8⟩, ⟨s9, w9⟩⟩ := hw
  have b0 := bounds_u64 w0
  have b1 := bounds_u64 w1
  have b3 := bounds_i64 w3
  have b6 := bounds_u64 w6
  have b7 := bounds_i64 w7
  unfold sz at hs
  unfold okRec okNums
  rw [wf_u8s w8, wf_u8s w9, Bool.and_true, Bool.and_true, Bool.and_eq_true, decide_eq_true_eq, decide_eq_true_eq]
  constructor
  · omega
  · omega
/-- the record that a record's cells say -/
def toRec (x : S27) : Rec := mkRec x.f0 x.f1 x.f2 x.f3 x.f4 x.f5 x.f6 x.f7 x.f8 x.f9
structure OkS (x : S27) : Prop where
  wf : wf27 x
  small : sz x ≤ 5000
theorem OkS.okr {x : S27} (h : OkS x) : OkRec x.f0 x.f1 x.f2 x.f3 x.f4 x.f5 x.f6 x.f7 x.f8 x.f9 := okRec_of (okRec_wf h.wf h.small)
def showS (x : S27) : List UInt8 := (toRec x).show8
def digS (x : S27) : List UInt8 := Sha.sha (showS x)
theorem showS_length {x : S27} (h : OkS x) : (showS x).length ≤ 100000 := show8_length _ h.okr.small
theorem ashow_f {x : S27} (h : OkS x) : ashow.f x.f0 x.f1 x.f2 x.f3 x.f4 x.f5 x.f6 x.f7 x.f8 x.f9 = some (i8s (showS x)) := by
  unfold ashow.f
  rw [if_pos (okRec_wf h.wf h.small)]; rfl
theorem rshow_f {x : S27} (h : OkS x) : rshow.f x.f0 x.f1 x.f2 x.f3 x.f4 x.f5 x.f6 x.f7 x.f8 x.f9 = some (i8s (showS x)) := by
  unfold rshow.f
  rw [if_pos (okRec_wf h.wf h.small)]; rfl
theorem okSha_i8s {l : List UInt8} (h : l.length ≤ 100000000) : okSha (i8s l) = true := by
  unfold okSha
  rw [ok8_i8s, Bool.true_and, decide_eq_true_eq, i8s_length]; exact h
theorem adig_f {x : S27} (h : OkS x) : audit_Digest.f x.f0 x.f1 x.f2 x.f3 x.f4 x.f5 x.f6 x.f7 x.f8 x.f9 = some (i8s (digS x)) := by
  unfold audit_Digest.f
  rw [ashow_f h]
  simp only [Option.bind_some]
  unfold dsha.f
  rw [if_pos (okSha_i8s (by have := showS_length h; omega)), u8s_i8s]; rfl
theorem rdig_f {x : S27} (h : OkS x) : steleref14_Digest.f x.f0 x.f1 x.f2 x.f3 x.f4 x.f5 x.f6 x.f7 x.f8 x.f9 = some (i8s (digS x)) := by
  unfold steleref14_Digest.f
  rw [rshow_f h]
  simp only [Option.bind_some]
  unfold rsha.f
  rw [if_pos (okSha_i8s (by have := showS_length h; omega)), u8s_i8s]; rfl
theorem okSame_mk {l m : List Int} (h1 : ok8 l = true) (h2 : ok8 m = true) (h3 : l.length ≤ 140737488355328) (h4 : m.length ≤ 140737488355328) : okSame l m = true := by
  unfold okSame
  rw [h1, h2, decide_eq_true h3, decide_eq_true h4]; rfl
theorem rsame_f {l m : List Int} (h1 : ok8 l = true) (h2 : ok8 m = true) (h3 : l.length ≤ 140737488355328) (h4 : m.length ≤ 140737488355328) : rsame.f l m = some (decide (l = m)) := by
  unfold rsame.f
  rw [if_pos (okSame_mk h1 h2 h3 h4)]
theorem dsame_f {l m : List Int} (h1 : ok8 l = true) (h2 : ok8 m = true) (h3 : l.length ≤ 140737488355328) (h4 : m.length ≤ 140737488355328) : dsame.f l m = some (decide (l = m)) := by
  unfold dsame.f
  rw [if_pos (okSame_mk h1 h2 h3 h4)]
theorem rsame_i8s {l m : List UInt8} (h3 : l.length ≤ 140737488355328) (h4 : m.length ≤ 140737488355328) : rsame.f (i8s l) (i8s m) = some (decide (l = m)) := by
  rw [rsame_f (ok8_i8s _) (ok8_i8s _) (by rw [i8s_length]; exact h3) (by rw [i8s_length]; exact h4)]
  congr 1
  exact decide_eq_decide.2 ⟨i8s_inj, fun e => by rw [e]⟩
theorem dsame_i8s {l m : List UInt8} (h3 : l.length ≤ 140737488355328) (h4 : m.length ≤ 140737488355328) : dsame.f (i8s l) (i8s m) = some (decide (l = m)) := by
  rw [dsame_f (ok8_i8s _) (ok8_i8s _) (by rw [i8s_length]; exact h3) (by rw [i8s_length]; exact h4)]
  congr 1
  exact decide_eq_decide.2 ⟨i8s_inj, fun e => by rw [e]⟩
/-- are two records the same, as Go's text has it -/
def sameS (x y : S27) : Bool := decide (x.f0 = y.f0) && (decide (x.f1 = y.f1) && (decide (x.f2.toList = y.f2.toList) && (decide (x.f3 = y.f3) && (decide (x.f4.toList = y.f4.toList) && (decide (x.f5.toList = y.f5.toList) && (decide (x.f6 = y.f6) && (decide (x.f7 = y.f7) && (decide (x.f8 = y.f8) && decide (x.f9 = y.f9)))))))))
end Go.Proofs.Ytjnakhgpenafdaa
