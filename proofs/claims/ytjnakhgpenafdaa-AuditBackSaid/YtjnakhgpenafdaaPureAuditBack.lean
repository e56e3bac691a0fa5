/- The plain statement of AuditBack, proved. -/
import Derived.Test.YtjnakhgpenafdaaSAuditBack
import Derived.Test.YtjnakhgpenafdaaPlRd
import Derived.Test.YtjnakhgpenafdaaPl14a
import Derived.Test.YtjnakhgpenafdaaCodec
namespace Go.Proofs.Ytjnakhgpenafdaa
open Go.RowKit Go.Proofs.YtjnakhgpenafdaaW.PrintWords Go.Proofs.Ytjnakhgpenafdaa.P14
open Cn (uP sP)
set_option linter.unusedVariables false
theorem show8_eq (r : Rec) : r.show8 = uP r.seq ++ (uP r.clock ++ (sP 115 r.who.data.toList ++ (uP r.kind.toNat ++ (sP 115 r.bucket.data.toList ++ (sP 115 r.key.data.toList ++ (uP r.version ++ (uP r.err.toNat ++ (sP 98 r.sum ++ (sP 98 r.prev ++ []))))))))) := by
  simp [Rec.show8, Cn.uint_eq, Cn.text_eq, Cn.bytes_eq]
theorem ba_eta (b : ByteArray) : (⟨b.data.toList.toArray⟩ : ByteArray) = b := by cases b; simp
def rightS (x : S27) : Bool := restB x.f3 x.f7 x.f2.size x.f4.size x.f5.size && (sumB x.f8.length && prevB x.f0 x.f9.length)
theorem fields_show {x : S27} (h : OkS x) : fieldsOf (showS x) = ⟨x.f0.toNat, x.f1.toNat, x.f2.data.toList, x.f3.toNat, x.f4.data.toList, x.f5.data.toList, x.f6.toNat, x.f7.toNat, u8s x.f8, u8s x.f9, [], false⟩ := by
  have hs := h.small
  obtain ⟨w0, w1, s2, w3, s4, s5, w6, w7, ⟨s8, w8⟩, ⟨s9, w9⟩⟩ := h.wf
  have b0 := bounds_u64 w0
  have b1 := bounds_u64 w1
  have b3 := bounds_i64 w3
  have b6 := bounds_u64 w6
  have b7 := bounds_i64 w7
  unfold sz at hs
  have l2 : x.f2.data.toList.length = x.f2.size := by rw [Array.length_toList]; rfl
  have l4 : x.f4.data.toList.length = x.f4.size := by rw [Array.length_toList]; rfl
  have l5 : x.f5.data.toList.length = x.f5.size := by rw [Array.length_toList]; rfl
  unfold showS
  rw [show8_eq]
  unfold toRec mkRec
  unfold fieldsOf
  simp only
  rw [uC_show (n := x.f0.toNat) _ (by omega)]
  simp only
  rw [uC_show (n := x.f1.toNat) _ (by omega)]
  simp only
  rw [sC_show (b := x.f2.data.toList) _ (by omega)]
  simp only
  rw [uC_show (n := x.f3.toNat) _ (by omega)]
  simp only
  rw [sC_show (b := x.f4.data.toList) _ (by omega)]
  simp only
  rw [sC_show (b := x.f5.data.toList) _ (by omega)]
  simp only
  rw [uC_show (n := x.f6.toNat) _ (by omega)]
  simp only
  rw [uC_show (n := x.f7.toNat) _ (by omega)]
  simp only
  rw [sC_show (b := u8s x.f8) _ (by rw [u8s_length]; omega)]
  simp only
  rw [sC_show (b := u8s x.f9) _ (by rw [u8s_length]; omega)]
/-- a record that is shown is read as it was, if it is right -/
theorem read_show {x : S27} (h : OkS x) (h3 : 0 ≤ x.f3) (h7 : 0 ≤ x.f7) :
    ∃ o, recOf (fieldsOf (showS x)) = o ∧ (o.2.2.2.2.2.2.2.2.2.2 == 0) = rightS x ∧ (rightS x = true → s27 o = x) := by
  have b0 := bounds_u64 h.wf.1
  have b1 := bounds_u64 h.wf.2.1
  have b6 := bounds_u64 h.wf.2.2.2.2.2.2.1
  have k := h.okr
  refine ⟨_, rfl, ?_⟩
  rw [fields_show h]
  have hr : goodFs ⟨x.f0.toNat, x.f1.toNat, x.f2.data.toList, x.f3.toNat, x.f4.data.toList, x.f5.data.toList, x.f6.toNat, x.f7.toNat, u8s x.f8, u8s x.f9, [], false⟩ = rightS x := by
    unfold goodFs rightFs rightS
    simp only
    rw [show ((x.f3.toNat : Nat) : Int) = x.f3 by omega, show ((x.f7.toNat : Nat) : Int) = x.f7 by omega, show ((x.f0.toNat : Nat) : Int) = x.f0 by omega, u8s_length, u8s_length, Array.length_toList, Array.length_toList, Array.length_toList]
    rfl
  unfold recOf
  rw [hr]
  cases hx : rightS x with
  | false => exact ⟨rfl, fun e => by cases e⟩
  | true =>
    refine ⟨rfl, fun _ => ?_⟩
    rw [if_pos rfl]
    unfold s27
    simp only
    rw [show ((x.f3.toNat : Nat) : Int) = x.f3 by omega, show ((x.f7.toNat : Nat) : Int) = x.f7 by omega, show ((x.f0.toNat : Nat) : Int) = x.f0 by omega, show ((x.f1.toNat : Nat) : Int) = x.f1 by omega, show ((x.f6.toNat : Nat) : Int) = x.f6 by omega,
      ba_eta, ba_eta, ba_eta, i8s_u8s k.s8, i8s_u8s k.s9]
/-- bytes that are a record are what is shown of it -/
theorem show_read {B : List UInt8} (h : goodFs (fieldsOf B) = true) : showS (s27 (recOf (fieldsOf B))) = B := by
  obtain ⟨⟨x1, B1, d1⟩, e1⟩ : ∃ o, uC B false = o := ⟨_, rfl⟩
  obtain ⟨⟨x2, B2, d2⟩, e2⟩ : ∃ o, uC B1 d1 = o := ⟨_, rfl⟩
  obtain ⟨⟨t3, B3, d3⟩, e3⟩ : ∃ o, sC 115 B2 d2 = o := ⟨_, rfl⟩
  obtain ⟨⟨x4, B4, d4⟩, e4⟩ : ∃ o, uC B3 d3 = o := ⟨_, rfl⟩
  obtain ⟨⟨t5, B5, d5⟩, e5⟩ : ∃ o, sC 115 B4 d4 = o := ⟨_, rfl⟩
  obtain ⟨⟨t6, B6, d6⟩, e6⟩ : ∃ o, sC 115 B5 d5 = o := ⟨_, rfl⟩
  obtain ⟨⟨x7, B7, d7⟩, e7⟩ : ∃ o, uC B6 d6 = o := ⟨_, rfl⟩
  obtain ⟨⟨x8, B8', d8⟩, e8⟩ : ∃ o, uC B7 d7 = o := ⟨_, rfl⟩
  obtain ⟨⟨b9, B9, d9⟩, e9⟩ : ∃ o, sC 98 B8' d8 = o := ⟨_, rfl⟩
  obtain ⟨⟨b10, B10, d10⟩, e10⟩ : ∃ o, sC 98 B9 d9 = o := ⟨_, rfl⟩
  have hf : fieldsOf B = ⟨x1, x2, t3, x4, t5, t6, x7, x8, b9, b10, B10, d10⟩ := by
    unfold fieldsOf
    simp only [e1, e2, e3, e4, e5, e6, e7, e8, e9, e10]
  rw [hf] at h ⊢
  have hd : d10 = false ∧ B10 = [] := by
    have := h
    unfold goodFs at this
    rw [Bool.and_eq_true, decide_eq_true_eq] at this
    have h0 := this.1
    unfold dC at h0
    simp only at h0
    cases d10 with
    | true => simp at h0
    | false =>
      cases B10 with
      | nil => exact ⟨rfl, rfl⟩
      | cons y R => simp at h0
  obtain ⟨rfl, rfl⟩ := hd
  obtain ⟨rfl, r10⟩ := sC_back e10
  obtain ⟨rfl, r9⟩ := sC_back e9
  obtain ⟨rfl, r8⟩ := uC_back e8
  obtain ⟨rfl, r7⟩ := uC_back e7
  obtain ⟨rfl, r6⟩ := sC_back e6
  obtain ⟨rfl, r5⟩ := sC_back e5
  obtain ⟨rfl, r4⟩ := uC_back e4
  obtain ⟨rfl, r3⟩ := sC_back e3
  obtain ⟨rfl, r2⟩ := uC_back e2
  obtain ⟨_, r1⟩ := uC_back e1
  unfold recOf
  rw [if_pos h]
  unfold showS
  rw [show8_eq]
  unfold toRec mkRec s27
  simp only [Int.toNat_natCast, u8s_i8s]
  rw [r1, r2, r3, r4, r5, r6, r7, r8, r9, r10]
theorem Pure.AuditBack : PlainAuditBack := by
  intro x l hx hl
  refine ⟨4, ?_⟩
  have hli : stelelaw14_light.f 4 [x] = some (lightB [x]) := light_f (l := [x]) (by
    intro a ha
    simp only [List.mem_cons, List.not_mem_nil, or_false] at ha
    subst ha
    exact hx) (by simp) (by simp)
  have ht : ∀ k, stelelaw14_AuditBack.j0 (k + 1) l true x.f0 x.f1 x.f2 x.f3 x.f4 x.f5 x.f6 x.f7 x.f8 x.f9 = some true := by
    intro k
    rw [stelelaw14_AuditBack.j0, if_pos rfl]
    rfl
  unfold stelelaw14_AuditBack.f
  rw [show stelelaw14_light.f 4 ([(⟨x.f0, x.f1, x.f2, x.f3, x.f4, x.f5, x.f6, x.f7, x.f8, x.f9⟩ : S27)] : List S27) = some (lightB [x]) from hli]
  simp only [Option.bind_some]
  by_cases h : lightB [x] = true
  · rw [if_pos h]
    by_cases c : (l.length : Int) > 10000
    · rw [if_pos c]; exact ht 3
    · rw [if_neg c]
      by_cases c3 : x.f3 < 0
      · rw [if_pos c3]; exact ht 3
      · rw [if_neg c3]
        by_cases c7 : x.f7 < 0
        · rw [decide_eq_true c7]; exact ht 3
        · rw [decide_eq_false c7]
          have ox : OkS x := ⟨hx, by simpa [lightB, smallS] using h⟩
          have hj1 : stelelaw14_AuditBack.j1 3 l false = some true := by
            rw [stelelaw14_AuditBack.j1, if_neg (by decide)]
            have hr : aread.f l = some (recOf (fieldsOf (u8s l))) := if_pos (okRead_wf hl.2 (by omega))
            have ho := okS_rec (fieldsOf_num (u8s l))
            rw [hr]
            simp only [Option.bind_some]
            by_cases g : goodFs (fieldsOf (u8s l)) = true
            · have hb := show_read g
              have hlen : (u8s l).length ≤ 10000 := by rw [u8s_length]; omega
              have he : i8s (u8s l) = l := i8s_u8s (wf_u8s hl.2)
              have hz : (recOf (fieldsOf (u8s l))).2.2.2.2.2.2.2.2.2.2 = 0 := by unfold recOf; rw [if_pos g]
              obtain ⟨o, e⟩ : ∃ o, o = recOf (fieldsOf (u8s l)) := ⟨_, rfl⟩
              rw [← e] at ho hb hz ⊢
              have hs : ashow.f o.1 o.2.1 o.2.2.1 o.2.2.2.1 o.2.2.2.2.1 o.2.2.2.2.2.1 o.2.2.2.2.2.2.1 o.2.2.2.2.2.2.2.1 o.2.2.2.2.2.2.2.2.1 o.2.2.2.2.2.2.2.2.2.1 = some (i8s (showS (s27 o))) := ashow_f ho
              rw [if_pos hz, hs]
              simp only [Option.bind_some]
              have hq := rsame_i8s (l := u8s l) (m := u8s l) (by omega) (by omega)
              rw [he] at hq
              rw [hb, he, hq]
              simp only [Option.bind_some, decide_true, if_true]
              rfl
            · have hz : ¬ (recOf (fieldsOf (u8s l))).2.2.2.2.2.2.2.2.2.2 = 0 := by unfold recOf; rw [if_neg g]; decide
              rw [if_neg hz]
              rfl
          rw [stelelaw14_AuditBack.j0, if_neg (by decide), ashow_f ox]
          simp only [Option.bind_some]
          obtain ⟨o, e, herr, hsame⟩ := read_show ox (by omega) (by omega)
          have hln := showS_length ox
          have hr : aread.f (i8s (showS x)) = some o := by
            unfold aread.f readsAs
            rw [if_pos (by unfold okRead; rw [ok8_i8s, Bool.true_and, decide_eq_true_eq, i8s_length]; omega), u8s_i8s, e]
          have ho : OkS (s27 o) := by rw [← e]; exact okS_rec (fieldsOf_num _)
          rw [hr]
          simp only [Option.bind_some]
          have hrr : rright.f x.f0 x.f1 x.f2 x.f3 x.f4 x.f5 x.f6 x.f7 x.f8 x.f9 = some (rightS x) := rfl
          rw [hrr]
          simp only [Option.bind_some]
          rw [herr, if_neg (by simp)]
          cases hx2 : rightS x with
          | true =>
            have hz : o.2.2.2.2.2.2.2.2.2.2 = 0 := by rw [hx2] at herr; simpa using herr
            have hs : audit_Same.f o.1 o.2.1 o.2.2.1 o.2.2.2.1 o.2.2.2.2.1 o.2.2.2.2.2.1 o.2.2.2.2.2.2.1 o.2.2.2.2.2.2.2.1 o.2.2.2.2.2.2.2.2.1 o.2.2.2.2.2.2.2.2.2.1 x.f0 x.f1 x.f2 x.f3 x.f4 x.f5 x.f6 x.f7 x.f8 x.f9 = some (sameS (s27 o) x) := asameS ho ox
            rw [hsame hx2, sameS_self] at hs
            rw [if_pos hz, hs]
            simp only [Option.bind_some, Bool.not_true]
            exact hj1
          | false =>
            have hz : ¬ o.2.2.2.2.2.2.2.2.2.2 = 0 := by rw [hx2] at herr; simpa using herr
            rw [if_neg hz]
            exact hj1
  · rw [if_neg h]; exact ht 3
end Go.Proofs.Ytjnakhgpenafdaa
