import Derived.Test.YtjnakhgpenafdaaGS
import Derived.Test.YtjnakhgpenafdaaGA
import Derived.Deep.RegionHeld3
/- steleref01: left, right, k256, words, padded, bytes. -/
namespace Go.Proofs.Ytjnakhgpenafdaa
open Go.RowKit
open Sha (W be4)
set_option linter.unusedVariables false
set_option linter.unusedSimpArgs false
attribute [local go_sem] k_xor k_and k_or k_add k_add_wrap k_shr3 k_shr10

theorem left_any (X : W) (k : Nat) (w : World) (hk : k ≤ 32) :
    Calls Try.prog 59 #[.int .u32 (X.toNat : Int), .int .i64 (k : Int)] w fun e w' => e = .returned (.int .u32 (((X <<< k) ||| (X >>> (32 - k))).toNat : Int)) ∧ w = w' := by
  have h1 : (k : Int) ≤ 32 := by omega
  have h0 : (0 : Int) ≤ (k : Int) := by omega
  have e1 : ((32 : Int) - (k : Int)) = ((32 - k : Nat) : Int) := by omega
  go_enter Try.func59, Try.ntmps59
  go_wp2_with fail
  go_ret
  exact ⟨by rw [u32_shl', u32_shr', u32_or]; rfl, rfl⟩
theorem left_still (X : W) (k : Nat) (w : World) (hk : k ≤ 32) :
    Calls Try.prog 59 #[.int .u32 (X.toNat : Int), .int .i64 (k : Int)] w fun e w' => e = .returned (.int .u32 ((Sha.rotl X k).toNat : Int)) ∧ w' = w := (left_any X k w hk).mono fun _ _ h => ⟨h.1, h.2.symm⟩
theorem right_still (X : W) (k : Nat) (w : World) (hk : k ≤ 32) :
    Calls Try.prog 40 #[.int .u32 (X.toNat : Int), .int .i64 (k : Int)] w fun e w' => e = .returned (.int .u32 ((Sha.rotl X (32 - k)).toNat : Int)) ∧ w' = w := by
  have h1 : (k : Int) ≤ 32 := by omega
  have h0 : (0 : Int) ≤ (k : Int) := by omega
  have e1 : ((32 : Int) - (k : Int)) = ((32 - k : Nat) : Int) := by omega
  go_enter Try.func40, Try.ntmps40
  go_wp2_with fail
  refine (left_any X (32 - k) w (by omega)).mono ?_
  rintro e w1 ⟨rfl, rfl⟩
  go_wp2_with fail
  go_ret
  exact ⟨rfl, rfl⟩
theorem k256_any (w : World) :
    Calls Try.prog 37 #[] w fun e w' => e = .returned (.slice (some ⟨w.heap.size, 0, none⟩) 64 64) ∧ w' = w.alloc (.cells (WV Sha.K256) 53) := by
  go_enter Try.func37, Try.ntmps37
  go_wp2_with (first
    | (refine wpList_run (o := ⟨some 1, _, _, _, _, _⟩) (by rfl) (.slice (some ⟨w.heap.size, 0, none⟩) 64 64) (w.alloc (.cells (WV Sha.K256) 53)) (by kernel_rfl) ?_))
  go_ret
  exact ⟨rfl, rfl⟩

theorem info_u32 : (Try.prog.info? 53).map (fun i => (i.zero, i.size, i.bytes)) = some (some (.int .u32 0), 1, 4) := by kernel_rfl
theorem WL_append (l m : List W) : WL l ++ WL m = WL (l ++ m) := by simp [WL]
theorem own_words_length {w : World} {base n : Nat} {v : Value} {l : List W} (h : w.ownsRow base 53 1 v n (WL l)) : l.length = n := by have := h.1; rw [WL_length] at this; omega
theorem wpList_append_words {ops : Array Oper} {rest : List Oper} {o : Oper} {a : Act} {Q : Exit → Act → World → Prop} {w0 w : World} (base : Nat) (hgd : o.guard = none) (s x : Operand)
    (ho : o.op = .call { callee := .builtin .append, args := #[s, x], argTypes := #[54, 54] }) (v : Value) (n : Nat) (l m : List W) (hs : a.eval s = v)
    (hown : w.ownsRow base 53 1 v n (WL l)) (A : Option Addr) (k c : Nat) (hx : a.eval x = .slice A k c) (B : Nat) (hr : Reads w B 1 A k (WL m)) (hlen : l.length + m.length ≤ 1000)
    (hbase : base ≤ w.heap.size) (hb : Below base w0 w)
    (h : ∀ A' n' c' w', w'.ownsRow base 53 1 (.slice A' n' c') n' (WL (l ++ m)) → Below base w0 w' → w.grownBy w' v.ownBlock → wpList Try.prog ops Q rest (a.put o.dst (.slice A' n' c')) w') :
    wpList Try.prog ops Q (o :: rest) a w := by
  obtain ⟨i0, hi0, hz0, hz1, hz2⟩ := info_parts info_u32
  have hn := own_words_length hown
  have hk : m.length = k := by have := hr.1; rw [WL_length] at this; omega
  refine wpList_append_any _ hgd s x 54 ho base 53 i0 _ 1 4 Try.underlying54 hi0 hz0 hz1 hz2 rfl (by omega) v n (WL l) hs hown B A k c (WL m) hx hr (WL_one m) (by simp only [maxLen]; omega) (by omega) hbase ?_
  intro v1 w1 hown1 hg1 _
  rw [WL_append] at hown1
  obtain ⟨A', c', rfl⟩ := own_form hown1
  exact h A' _ c' w1 hown1 (hb.grown hg1 hbase fun k hk => (hown.lt k hk).1) hg1
theorem reads_word (w : World) (X : W) (z : Int) (hz : z = (X.toNat : Int)) : Reads (w.alloc (.cells #[.int .u32 z] 53)) (w.heap.size + 1) 1 (some ⟨w.heap.size, 0, none⟩) 1 (WL [X]) := by
  subst hz
  refine ⟨rfl, fun _ => ⟨_, rfl, by simp, ?_⟩⟩
  intro j u hj
  match j, hj with
  | 0, hj => simp [WL, wv] at hj; subst hj; simp [Addr.add]
theorem cell_plus (w : World) (ad : Addr) (k : Nat) (hk : 0 < k) : w.cell? { block := ad.block, off := ad.off + k } = w.cell? (ad.add k) := by
  have e : ad.add k = { block := ad.block, off := ad.off + k } := by unfold Addr.add; rw [if_neg (by omega)]
  rw [e]
/-- a call that hands back new words -/
def RetW (w : World) (l : List W) (e : Ending) (w' : World) : Prop := ∃ A n c, e = .returned (.slice A n c) ∧ w'.ownsRow w.heap.size 53 1 (.slice A n c) n (WL l) ∧ Below w.heap.size w w'
theorem sched_low (b : List UInt8) (j : Nat) (hj : j < 16) : Sha.sched b (j + 1) = Sha.sched b j ++ [be4 (b.getD (4 * j) 0) (b.getD (4 * j + 1) 0) (b.getD (4 * j + 2) 0) (b.getD (4 * j + 3) 0)] := by
  rw [Sha.sched, Sha.nextW, if_pos hj]

theorem step_append_words {ops : Array Oper} {o : Oper} {a : Act} {K : Act → World → Prop} {Q : Exit → Act → World → Prop} {E : Prop} {w0 w : World} (base : Nat) (hgd : o.guard = none) (s x : Operand)
    (ho : o.op = .call { callee := .builtin .append, args := #[s, x], argTypes := #[54, 54] }) (v : Value) (n : Nat) (l m : List W) (hs : a.eval s = v)
    (hown : w.ownsRow base 53 1 v n (WL l)) (A : Option Addr) (k c : Nat) (hx : a.eval x = .slice A k c) (B : Nat) (hr : Reads w B 1 A k (WL m)) (hlen : l.length + m.length ≤ 1000)
    (hbase : base ≤ w.heap.size) (hb : Below base w0 w)
    (h : ∀ A' n' c' w', w'.ownsRow base 53 1 (.slice A' n' c') n' (WL (l ++ m)) → Below base w0 w' → w.grownBy w' v.ownBlock → K (a.put o.dst (.slice A' n' c')) w') :
    if Region.wanted o (yielded ops a.tmps) = true then Oper.wp Try.prog o a w K Q else E := by
  have hw : Region.wanted o (yielded ops a.tmps) = true := by simp [Region.wanted, hgd]
  rw [if_pos hw]
  obtain ⟨i0, hi0, hz0, hz1, hz2⟩ := info_parts info_u32
  have hn := own_words_length hown
  have hk : m.length = k := by have := hr.1; rw [WL_length] at this; omega
  refine wp_append_any _ s x 54 ho base 53 i0 _ 1 4 Try.underlying54 hi0 hz0 hz1 hz2 rfl (by omega) v n (WL l) hs hown B A k c (WL m) hx hr (WL_one m) (by simp only [maxLen]; omega) (by omega) hbase ?_
  intro v1 w1 hown1 hg1 _
  rw [WL_append] at hown1
  obtain ⟨A', c', rfl⟩ := own_form hown1
  exact h A' _ c' w1 hown1 (hb.grown hg1 hbase fun k hk => (hown.lt k hk).1) hg1
theorem reads_at {w : World} {B : Nat} {ad : Addr} {n k : Nat} {l : List UInt8} (h : Reads w B 1 (some ad) n (B8 l)) (hk : k < n) : w.cell? (ad.add k) = some (.int .u8 ((l.getD k 0).toNat : Int)) := by
  obtain ⟨ad', e, h2⟩ := reads_cell h hk
  injection e with e; subst e; exact h2
theorem cells4 {w' : World} {B : Nat} {ad : Addr} {b : List UInt8} {m : Nat} (hm : m + 3 < 64) (h : Reads w' B 1 (some ad) 64 (B8 b)) :
    w'.cell? (ad.add m) = some (.int .u8 ((b.getD m 0).toNat : Int)) ∧ w'.cell? { block := ad.block, off := ad.off + (m + 1) } = some (.int .u8 ((b.getD (m + 1) 0).toNat : Int)) ∧
      w'.cell? { block := ad.block, off := ad.off + (m + 2) } = some (.int .u8 ((b.getD (m + 2) 0).toNat : Int)) ∧ w'.cell? { block := ad.block, off := ad.off + (m + 3) } = some (.int .u8 ((b.getD (m + 3) 0).toNat : Int)) := by
  refine ⟨reads_at h (by omega), (cell_plus w' ad (m + 1) (by omega)).trans (reads_at h (by omega)), (cell_plus w' ad (m + 2) (by omega)).trans (reads_at h (by omega)), (cell_plus w' ad (m + 3) (by omega)).trans (reads_at h (by omega))⟩

set_option maxRecDepth 100000 in
set_option maxHeartbeats 4000000 in
theorem words_any (A : Option Addr) (c : Nat) (b : List UInt8) (w : World) (hr : Reads w w.heap.size 1 A 64 (B8 b)) :
    Calls Try.prog 39 #[.slice A 64 c] w (RetW w (Sha.sched b 16)) := by
  have HR := Lib.hid hr
  clear hr
  go_enter Try.func39, Try.ntmps39
  go_wp2_with fail
  go_loopw [3, 4] (fun v i wr => ∃ (j n : Nat) (A1 : Option Addr) (c1 : Nat), j ≤ 16 ∧ v = .slice A1 n c1 ∧ i = .int .i64 ((4 * j : Nat) : Int) ∧ Hid (wr.ownsRow w.heap.size 53 1 (.slice A1 n c1) n (WL (Sha.sched b j))) ∧ Below w.heap.size w wr) (fun _ i _ => (64 - intOf i).toNat)
  case atStart => exact ⟨0, 0, none, 0, by omega, rfl, rfl, Lib.hid (World.ownsRow_nil _ _ _ _), Below.refl _ _⟩
  case round =>
    obtain ⟨j, n, A1, c1, hj, rfl, rfl, hown, hb⟩ := hrel
    have HB := Lib.hid hb
    clear hb
    by_cases hj16 : j < 16
    · obtain ⟨m, hm⟩ : ∃ m, m = 4 * j := ⟨_, rfl⟩
      rw [← hm]
      have hm60 : (m : Int) ≤ 60 := by omega
      have m0 : (0 : Int) ≤ (m : Int) := by omega
      have hmN : m + 3 < 64 := by omega
      have hS := Lib.hid (sched_low b j hj16)
      rw [← hm] at hS
      obtain ⟨ad, rfl, -⟩ := reads_cell (HR.out.below HB.out) (show m < 64 by omega)
      have hR0 := HR.out.below HB.out
      have d0 := UInt8.toNat_lt (b.getD m 0)
      have d1 := UInt8.toNat_lt (b.getD (m + 1) 0)
      have d2 := UInt8.toNat_lt (b.getD (m + 2) 0)
      have d3 := UInt8.toNat_lt (b.getD (m + 3) 0)
      have HV := Lib.hid (be4_val (b.getD m 0) (b.getD (m + 1) 0) (b.getD (m + 2) 0) (b.getD (m + 3) 0))
      obtain ⟨X, hX⟩ : ∃ X, X = be4 (b.getD m 0) (b.getD (m + 1) 0) (b.getD (m + 2) 0) (b.getD (m + 3) 0) := ⟨_, rfl⟩
      rw [← hX] at HV hS
      clear hX
      have HS := Lib.hid (fun w' => cells4 (w' := w') (B := w.heap.size) (ad := ad) (b := b) (m := m) hmN)
      generalize b.getD m 0 = x0 at *
      generalize b.getD (m + 1) 0 = x1 at *
      generalize b.getD (m + 2) 0 = x2 at *
      generalize b.getD (m + 3) 0 = x3 at *
      have HM := Lib.hid (And.intro hm hmN)
      have hle : w.heap.size ≤ wr.drew.heap.size := HB.out.size
      have hle' : w.heap.size ≤ wr.heap.size := HB.out.size
      clear hm hmN
      have q0 : IntKind.u32.wrap (x0.toNat : Int) = (x0.toNat : Int) := by rw [IntKind.wrap_u32]; omega
      have q1 : IntKind.u32.wrap (x1.toNat : Int) = (x1.toNat : Int) := by rw [IntKind.wrap_u32]; omega
      have q2 : IntKind.u32.wrap (x2.toNat : Int) = (x2.toNat : Int) := by rw [IntKind.wrap_u32]; omega
      have q3 : IntKind.u32.wrap (x3.toNat : Int) = (x3.toNat : Int) := by rw [IntKind.wrap_u32]; omega
      have r0 : IntKind.u32.wrap ((x0.toNat : Int) * (16777216 : Int)) = (x0.toNat : Int) * (16777216 : Int) := by rw [IntKind.wrap_u32]; omega
      have r1 : IntKind.u32.wrap ((x1.toNat : Int) * (65536 : Int)) = (x1.toNat : Int) * (65536 : Int) := by rw [IntKind.wrap_u32]; omega
      have r2 : IntKind.u32.wrap ((x2.toNat : Int) * (256 : Int)) = (x2.toNat : Int) * (256 : Int) := by rw [IntKind.wrap_u32]; omega
      have e1 : IntKind.i64.wrap ((m : Int) + 1) = (m : Int) + 1 := IntWalk.i64_in _ (by omega)
      have e2 : IntKind.i64.wrap ((m : Int) + 2) = (m : Int) + 2 := IntWalk.i64_in _ (by omega)
      have e3 : IntKind.i64.wrap ((m : Int) + 3) = (m : Int) + 3 := IntWalk.i64_in _ (by omega)
      have f0 : (m : Int) < 64 := by omega
      have f1 : (m : Int) + 1 < 64 := by omega
      have f2 : (m : Int) + 2 < 64 := by omega
      have f3 : (m : Int) + 3 < 64 := by omega
      have g1 : (0 : Int) ≤ (m : Int) + 1 := by omega
      have g2 : (0 : Int) ≤ (m : Int) + 2 := by omega
      have g3 : (0 : Int) ≤ (m : Int) + 3 := by omega
      have t1 : ((m : Int) + 1).toNat = m + 1 := by omega
      have t2 : ((m : Int) + 2).toNat = m + 2 := by omega
      have t3 : ((m : Int) + 3).toNat = m + 3 := by omega
      have hown2 := Lib.hid (show wr.drew.ownsRow w.heap.size 53 1 (.slice A1 n c1) n (WL (Sha.sched b j)) from hown.out)
      have HB2 := Lib.hid HB.out.drew
      go_wp2_with fail
      go_region_held3 (fun w' => w'.cell? (ad.add m) = some (.int .u8 (x0.toNat : Int)) ∧ w'.cell? { block := ad.block, off := ad.off + (m + 1) } = some (.int .u8 (x1.toNat : Int)) ∧ w'.cell? { block := ad.block, off := ad.off + (m + 2) } = some (.int .u8 (x2.toNat : Int)) ∧ w'.cell? { block := ad.block, off := ad.off + (m + 3) } = some (.int .u8 (x3.toNat : Int)))
        (first | exact HS.out _ hR0 | exact HS.out _ (hR0.drew.alloc hle _) | exact HS.out _ hR7)
        ((refine step_append_words (w0 := w) w.heap.size (by rfl) (.tmp 9) (.tmp 39) (by rfl) _ n (Sha.sched b j) [X] (by rfl) (hown2.out.alloc _) (some ⟨wr.drew.heap.size, 0, none⟩) 1 1 (by rfl) (wr.drew.heap.size + 1) (reads_word wr.drew X _ HV.out) (by rw [Sha.sched_length]; simp; omega) (by simp; omega) (HB2.out.alloc hle _) ?_; intro A2 n2 c2 w7 hown7 hb7 hg7; have hR7 := HR.out.below hb7))
      go_wp2_with fail
      go_roundw
      case rel => exact ⟨j + 1, n2, A2, c2, by omega, rfl, by rw [HM.out.1]; go_num, Lib.hid (by rw [hS.out]; exact hown7), hb7⟩
      case measure => rw [HM.out.1]; simp [intOf]; omega
    · obtain rfl : j = 16 := by omega
      go_wp2_with fail
      go_ret
      exact ⟨A1, n, c1, rfl, hown.out, HB.out⟩
end Go.Proofs.Ytjnakhgpenafdaa
/- steleref01: padded, bytes. -/
namespace Go.Proofs.Ytjnakhgpenafdaa
open Go.RowKit
open Sha (W be4)
set_option linter.unusedVariables false
set_option linter.unusedSimpArgs false

theorem step_append_bytes {ops : Array Oper} {o : Oper} {a : Act} {K : Act → World → Prop} {Q : Exit → Act → World → Prop} {E : Prop} {w0 w : World} (base : Nat) (hgd : o.guard = none) (s x : Operand)
    (ho : o.op = .call { callee := .builtin .append, args := #[s, x], argTypes := #[25, 25] }) (v : Value) (n : Nat) (l m : List UInt8) (hs : a.eval s = v)
    (hown : w.ownsRow base 5 1 v n (B8 l)) (A : Option Addr) (k c : Nat) (hx : a.eval x = .slice A k c) (B : Nat) (hr : Reads w B 1 A k (B8 m)) (hlen : l.length + m.length ≤ 140737488355328)
    (hbase : base ≤ w.heap.size) (hb : Below base w0 w)
    (h : ∀ A' n' c' w', w'.ownsRow base 5 1 (.slice A' n' c') n' (B8 (l ++ m)) → Below base w0 w' → w.grownBy w' v.ownBlock → K (a.put o.dst (.slice A' n' c')) w') :
    if Region.wanted o (yielded ops a.tmps) = true then Oper.wp Try.prog o a w K Q else E := by
  have hw : Region.wanted o (yielded ops a.tmps) = true := by simp [Region.wanted, hgd]
  rw [if_pos hw]
  obtain ⟨i0, hi0, hz0, hz1, hz2⟩ := info_parts info_u8
  have hn := own_bytes_length hown
  have hk := hr.bytes_length
  refine wp_append_any _ s x 25 ho base 5 i0 _ 1 1 Try.underlying25 hi0 hz0 hz1 hz2 rfl (by omega) v n (B8 l) hs hown B A k c (B8 m) hx hr (B8_one m) (by simp only [maxLen]; omega) (by omega) hbase ?_
  intro v1 w1 hown1 hg1 _
  rw [B8_append] at hown1
  obtain ⟨A', c', rfl⟩ := own_form hown1
  exact h A' _ c' w1 hown1 (hb.grown hg1 hbase fun k hk => (hown.lt k hk).1) hg1
theorem wreads_at {w : World} {B : Nat} {A : Option Addr} {n k : Nat} {l : List W} (h : Reads w B 1 A n (WL l)) (hk : k < n) : ∃ ad, A = some ad ∧ ad.block < B ∧ w.cell? (ad.add k) = some (.int .u32 ((l.getD k 0).toNat : Int)) := by
  obtain ⟨ad, e, hb, hc⟩ := h.2 (by omega)
  have hl : l.length = n := by have := h.1; rw [WL_length] at this; omega
  refine ⟨ad, e, hb, hc k _ ?_⟩
  rw [WL, List.getElem?_map, List.getElem?_eq_getElem (by omega), List.getD_eq_getElem?_getD, List.getElem?_eq_getElem (by omega)]
  rfl

theorem reads_four_w (w : World) (X : W) : Reads (w.alloc (.cells #[.int .u8 (IntKind.u8.wrap ((X.toNat : Int) / 16777216)), .int .u8 (IntKind.u8.wrap ((X.toNat : Int) / 65536)), .int .u8 (IntKind.u8.wrap ((X.toNat : Int) / 256)), .int .u8 (IntKind.u8.wrap (X.toNat : Int))] 5)) (w.heap.size + 1) 1
    (some ⟨w.heap.size, 0, none⟩) 4 (B8 (Sha.wb X)) := by
  have h := reads_four w X
  have := X.isLt
  have e : (X.toNat : Int) / 16777216 % 256 = (X.toNat : Int) / 16777216 := Int.emod_eq_of_lt (by omega) (by omega)
  rw [IntKind.wrap_u8, IntKind.wrap_u8, IntKind.wrap_u8, IntKind.wrap_u8, e]
  exact h
set_option maxRecDepth 100000 in
set_option maxHeartbeats 4000000 in
theorem rbytes8_any (A : Option Addr) (n c : Nat) (l : List W) (w : World) (hr : Reads w w.heap.size 1 A n (WL l)) (hn : n ≤ 1000) :
    Calls Try.prog 41 #[.slice A n c] w (RetB w (l.flatMap Sha.wb)) := by
  have hl : l.length = n := by have := hr.1; rw [WL_length] at this; omega
  have HR := Lib.hid hr
  have HL := Lib.hid hl
  have hnI : (n : Int) ≤ 1000 := by omega
  clear hr hl
  go_enter Try.func41, Try.ntmps41
  go_wp2_with fail
  go_loopw [3, 4] (fun v i wr => ∃ (k m : Nat) (A1 : Option Addr) (c1 : Nat), k ≤ n ∧ v = .slice A1 m c1 ∧ i = .int .i64 (k : Int) ∧ Hid (wr.ownsRow w.heap.size 5 1 (.slice A1 m c1) m (B8 ((l.take k).flatMap Sha.wb))) ∧ Below w.heap.size w wr) (fun _ i _ => (n - intOf i).toNat)
  case atStart => exact ⟨0, 0, none, 0, by omega, rfl, rfl, Lib.hid (World.ownsRow_nil _ _ _ _), Below.refl _ _⟩
  case round =>
    obtain ⟨k, m, A1, c1, hk, rfl, rfl, hown, hb⟩ := hrel
    have HB := Lib.hid hb
    clear hb
    by_cases hkn : k < n
    · obtain ⟨ad, rfl, had, hc0⟩ := wreads_at (HR.out.below HB.out) hkn
      obtain ⟨X, hX⟩ : ∃ X, X = l.getD k 0 := ⟨_, rfl⟩
      rw [← hX] at hc0
      have HS := Lib.hid (wb_take l k (by rw [HL.out]; omega))
      rw [← hX] at HS
      clear hX
      have hx32 := X.isLt
      have hle : w.heap.size ≤ wr.drew.heap.size := HB.out.size
      have hle' : w.heap.size ≤ wr.heap.size := HB.out.size
      have hc1 : ∀ o, (wr.drew.alloc o).cell? (ad.add k) = _ := fun o => (World.cell?_alloc_lt wr.drew o _ (by rw [block_of_add]; omega)).trans hc0
      have hlen : ((l.take k).flatMap Sha.wb).length ≤ 4000 := by rw [flat_wb, List.length_take]; omega
      have HC := Lib.hid (And.intro hc0 (And.intro hc1 hlen))
      have k0 : (0 : Int) ≤ (k : Int) := by omega
      have kn : (k : Int) < (n : Int) := by omega
      have hown2 := Lib.hid (show wr.drew.ownsRow w.heap.size 5 1 (.slice A1 m c1) m (B8 ((l.take k).flatMap Sha.wb)) from hown.out)
      have HB2 := Lib.hid HB.out.drew
      have hc2 : ∀ w', Below w.heap.size w w' → w'.cell? (ad.add k) = some (.int .u32 (X.toNat : Int)) := fun w' h => (h.cell (by rw [block_of_add]; omega)).trans ((HB.out.cell (by rw [block_of_add]; omega)).symm.trans hc0)
      have HC2 := Lib.hid hc2
      clear hc0 hc1 hc2 hlen
      go_wp2_with fail
      go_region_held3 (fun w' => w'.cell? (ad.add k) = some (.int .u32 (X.toNat : Int)))
        (first | exact HC.out.1 | exact HC.out.2.1 _ | exact HC2.out _ hb7)
        ((refine step_append_bytes (w0 := w) w.heap.size (by rfl) (.tmp 11) (.tmp 35) (by rfl) _ m ((l.take k).flatMap Sha.wb) (Sha.wb X) (by rfl) (hown2.out.alloc _) (some ⟨wr.drew.heap.size, 0, none⟩) 4 4 (by rfl) (wr.drew.heap.size + 1) (reads_four_w wr.drew X) (by rw [Sha.wb_length]; have := HC.out.2.2; omega) (by simp; omega) (HB2.out.alloc hle _) ?_; intro A2 n2 c2 w7 hown7 hb7 hg7))
      go_wp2_with fail
      go_roundw
      case rel => exact ⟨k + 1, n2, A2, c2, by omega, rfl, by go_num, Lib.hid (by rw [HS.out]; exact hown7), hb7⟩
      case measure => simp [intOf]; omega
    · obtain rfl : k = n := by omega
      have HT := Lib.hid (show l.take k = l from List.take_of_length_le (by rw [HL.out]; omega))
      go_wp2_with fail
      go_ret
      have h := hown.out
      rw [HT.out] at h
      exact RetB.mk h HB.out
theorem be8_down (n k : Nat) (hk : k < 8) : (Sha.be8 n).take (k + 1) = (Sha.be8 n).take k ++ [Sha.byte (n / 2 ^ (8 * (7 - k)))] := by
  rw [be8_get n k hk, show 56 - 8 * k = 8 * (7 - k) from by omega]

set_option maxRecDepth 100000 in
set_option maxHeartbeats 4000000 in
theorem padded_any (A : Option Addr) (n c : Nat) (l : List UInt8) (w : World) (hr : Reads w w.heap.size 1 A n (B8 l)) (hn : n ≤ 140737488355000) :
    Calls Try.prog 38 #[.slice A n c] w (RetB w (Sha.padded l)) := by
  have hl := hr.bytes_length
  have HR := Lib.hid hr
  have HL := Lib.hid hl
  have hnI : (n : Int) ≤ 140737488355000 := by omega
  have hn0 : (0 : Int) ≤ (n : Int) := by omega
  clear hr hl
  go_enter Try.func38, Try.ntmps38
  go_wp2_with (first
    | (at_builtin; refine wpList_append_bytes (w0 := w) w.heap.size (by rfl) (.tmp 6) (.tmp 7) (by rfl) _ 0 [] l (by rfl) (own_empty _ _ (Nat.le_refl _)) A n c (by rfl) w.heap.size (HR.out.alloc (Nat.le_refl _) _) (by rw [HL.out]; simp; omega) (by simp) ((Below.refl _ _).alloc (Nat.le_refl _) _) ?_; intro A1 n1 c1 w1 hown1 hb1 _)
    | (at_builtin; refine wpList_append_byte (w0 := w) w.heap.size (by rfl) (.tmp 8) (.tmp 9) (by rfl) _ n1 ([] ++ l) 128 0x80 rfl (by rfl) hown1 (by rfl) (by rw [List.nil_append, HL.out]; omega) hb1.size hb1 ?_; intro A2 n2 c2 w2 hown2 hb2 _))
  go_loopw [3] (fun v wr => ∃ (j m : Nat) (A3 : Option Addr) (c3 : Nat), j ≤ Sha.zs n ∧ v = .slice A3 m c3 ∧ m = n + 1 + j ∧ Hid (wr.ownsRow w.heap.size 5 1 (.slice A3 m c3) m (B8 (l ++ ([0x80] ++ List.replicate j 0)))) ∧ Below w.heap.size w wr)
    (fun v _ => match v with | .slice _ k _ => 200 + n - k | _ => 0)
  case atStart =>
    have hm := own_bytes_length hown2
    refine ⟨0, n2, A2, c2, Nat.zero_le _, rfl, ?_, Lib.hid (by simpa using hown2), hb2⟩
    rw [← hm, List.nil_append, List.length_append, HL.out]; simp
  case round =>
    clear hown1 hown2 hb1 hb2
    obtain ⟨j, m, A3, c3, hj, rfl, hm, hown, hb⟩ := hrel
    have HB := Lib.hid hb
    have hle := hb.size
    have hzs := zs_lt n
    clear hb
    have hmI : (m : Int) ≤ 140737488355200 := by omega
    have hm0 : (0 : Int) ≤ (m : Int) := by omega
    have hrr : (m : Int).tmod 64 = (m : Int) % 64 := Int.tmod_eq_emod_of_nonneg (by omega)
    by_cases h56 : m % 64 = 56
    · have hb : ((m : Int) % 64 != 56) = false := by rw [bne_eq_false_iff_eq]; omega
      have hjz : j = Sha.zs n := by unfold Sha.zs at *; omega
      rw [hjz] at hown
      have HN2 := Lib.hid hm
      clear hm hjz h56 hj hzs
      go_wp2_with fail
      obtain ⟨M, hMM⟩ : ∃ M, M = n * 8 := ⟨_, rfl⟩
      rw [show (n : Int) * 8 = (M : Int) from by omega]
      have hMI : (M : Int) ≤ 1125899906842624 := by omega
      obtain ⟨P, hP⟩ : ∃ P, P = l ++ ([0x80] ++ List.replicate (Sha.zs n) 0) := ⟨_, rfl⟩
      rw [← hP] at hown
      have hPl : P.length ≤ 140737488355200 := by have := own_bytes_length hown.out; omega
      have HP := Lib.hid (And.intro hP (And.intro hMM hPl))
      clear hMM hb hrr hP hPl
      go_loopw [3, 5] (fun v i wr => ∃ (k m : Nat) (A4 : Option Addr) (c4 : Nat), k ≤ 8 ∧ v = .slice A4 m c4 ∧ i = .int .i64 (7 - (k : Int)) ∧ Hid (wr.ownsRow w.heap.size 5 1 (.slice A4 m c4) m (B8 (P ++ (Sha.be8 M).take k))) ∧ Below w.heap.size w wr) (fun _ i _ => (intOf i + 1).toNat)
      case atStart => exact ⟨0, _, _, _, by omega, rfl, rfl, Lib.hid (by simpa using hown.out), HB.out⟩
      case round =>
        clear hown HB hle
        obtain ⟨k, m4, A4, c4, hk, rfl, rfl, hown, hb⟩ := hrel
        have HB := Lib.hid hb
        have hle := hb.size
        clear hb
        by_cases h8 : k < 8
        · obtain ⟨q, hq⟩ : ∃ q, q = 7 - k := ⟨_, rfl⟩
          rw [show (7 : Int) - (k : Int) = (q : Int) from by omega]
          have q0 : (0 : Int) ≤ (q : Int) := by omega
          have q7 : (q : Int) ≤ 7 := by omega
          have HQ := Lib.hid (show (Sha.be8 M).take (k + 1) = (Sha.be8 M).take k ++ [Sha.byte (M / 2 ^ (8 * q))] by rw [be8_down M k h8, hq])
          have hz := sbyte_div M (8 * q)
          have HZ := Lib.hid hz
          have hlen : (P ++ (Sha.be8 M).take k).length < 140737488355328 := by rw [List.length_append, List.length_take]; have := HP.out.2.2; omega
          have HLn := Lib.hid hlen
          have HQ2 := Lib.hid (And.intro hq h8)
          clear hz hlen hq h8
          go_wp2_with (first
            | (at_builtin; refine wpList_append_byte (w0 := w) w.heap.size (by rfl) (.tmp 26) (.tmp 33) (by rfl) _ m4 (P ++ (Sha.be8 M).take k) _ (Sha.byte (M / 2 ^ (8 * q))) HZ.out (by rfl) hown.out (by rfl) HLn.out hle HB.out ?_; intro A5 n5 c5 w5 hown5 hb5 _))
          go_roundw
          case rel => exact ⟨k + 1, n5, A5, c5, by have := HQ2.out.2; omega, rfl, by have := HQ2.out.1; have := HQ2.out.2; go_num, Lib.hid (by rw [HQ.out, ← List.append_assoc]; exact hown5), hb5⟩
          case measure => simp [intOf]
        · obtain rfl : k = 8 := by omega
          go_wp2_with fail
          go_ret
          have h := hown.out
          have e : P ++ (Sha.be8 M).take 8 = Sha.padded l := by
            rw [HP.out.1, HP.out.2.1, Sha.padded, HL.out, List.take_of_length_le (Nat.le_refl 8), List.append_assoc]
          rw [e] at h
          exact RetB.mk h HB.out
    · have hb : ((m : Int) % 64 != 56) = true := by rw [bne_iff_ne]; omega
      have hj2 : j < Sha.zs n := by
        rcases Nat.lt_or_ge j (Sha.zs n) with h | h
        · exact h
        · exfalso; unfold Sha.zs at *; omega
      have hlen : (l ++ ([0x80] ++ List.replicate j 0)).length < 140737488355328 := by have := own_bytes_length hown.out; omega
      have HJ := Lib.hid (And.intro hj2 (And.intro hm hlen))
      clear hj2 hm hlen hj hzs h56
      go_wp2_with (first
        | (at_builtin; refine wpList_append_byte (w0 := w) w.heap.size (by rfl) (.tmp 15) (.tmp 16) (by rfl) _ m (l ++ ([0x80] ++ List.replicate j 0)) 0 0 rfl (by rfl) hown.out (by rfl) HJ.out.2.2 hle HB.out ?_; intro A5 n5 c5 w5 hown5 hb5 _))
      have hn5 := own_bytes_length hown5
      have hm2 := own_bytes_length hown.out
      have e5 : l ++ ([0x80] ++ List.replicate j 0) ++ [0] = l ++ ([0x80] ++ List.replicate (j + 1) 0) := by rw [List.append_assoc, List.append_assoc, ← List.replicate_succ']
      go_roundw
      case rel => exact ⟨j + 1, n5, A5, c5, HJ.out.1, rfl, by rw [← hn5, List.length_append, hm2, HJ.out.2.1]; rfl, Lib.hid (by rw [← e5]; exact hown5), hb5⟩
      case measure =>
        have : n5 = m + 1 := by rw [← hn5, List.length_append, hm2]; rfl
        have := HJ.out.1; have := HJ.out.2.1; have := zs_lt n
        simp; omega
end Go.Proofs.Ytjnakhgpenafdaa
/- steleref01.Sha256. -/
namespace Go.Proofs.Ytjnakhgpenafdaa
open Go.RowKit
open Sha (W be4 rotl)
set_option linter.unusedVariables false
set_option linter.unusedSimpArgs false
def notW (X : W) : W := ~~~X
theorem k_not (X : W) : bits .xor .u32 (if IntKind.u32.signed = true then -1 else IntKind.u32.max) (X.toNat : Int) = ((notW X).toNat : Int) := by
  have h := u32_xor (BitVec.allOnes 32) X
  rw [BitVec.allOnes_xor] at h
  exact h
attribute [local go_sem] k_not k_xor k_and k_or k_add k_add_wrap k_shr3 k_shr10

theorem own_readsX {w : World} {base g n c : Nat} {A : Option Addr} {l : List UInt8} (h : w.ownsRow base 5 1 (.slice A n c) n (B8 l)) (hg : g < base) : ReadsX w g A n l := by
  refine ⟨own_bytes_length h, fun hn => ?_⟩
  obtain ⟨g', cap, hv, hb, hlt⟩ := h.form hn
  have hA : A = some ⟨g', 0, none⟩ := by injection hv
  subst hA
  exact ⟨_, rfl, by simp only; omega, hlt, h.cells (g := g') rfl⟩
theorem own_cap {w : World} {base n c : Nat} {A : Option Addr} {xs : List Value} {e : TypeId} (h : w.ownsRow base e 1 (.slice A n c) n xs) : n ≤ c := by
  rcases h.2 with ⟨hv, h0⟩ | ⟨g, cap, cur, hv, _, _, hnc, _⟩
  · injection hv with _ _ h3; omega
  · injection hv with _ _ h3; omega
theorem readsX_part {w : World} {g m : Nat} {ad : Addr} {n : Nat} {l : List UInt8} (h : ReadsX w g (some ad) n l) (hm : m + 64 ≤ n) : Reads w w.heap.size 1 (some (ad.add m)) 64 (B8 ((l.drop m).take 64)) := by
  obtain ⟨ad', e, h1, h2, h3⟩ := h.at_ (by omega)
  injection e with e; subst e
  have hl := h.len
  refine ⟨by rw [B8_length, List.length_take, List.length_drop]; omega, fun _ => ⟨_, rfl, by rw [block_of_add]; exact h2, fun j u hu => ?_⟩⟩
  have hj : j < 64 := by
    rcases Nat.lt_or_ge j 64 with h | h
    · exact h
    · rw [List.getElem?_eq_none (by rw [B8_length, List.length_take]; omega)] at hu; cases hu
  rw [add_of_add]
  refine h3 (m + j) u ?_
  rw [← hu, B8, B8, List.getElem?_map, List.getElem?_map, List.getElem?_take, if_pos hj, List.getElem?_drop]
theorem right_lit (X : W) (z : Int) (k r : Nat) (w : World) (hz : z = (k : Int)) (hr : r = 32 - k) (hk : k ≤ 32) :
    Calls Try.prog 40 #[.int .u32 (X.toNat : Int), .int .i64 z] w fun e w' => e = .returned (.int .u32 ((Sha.rotl X r).toNat : Int)) ∧ w' = w := by
  subst hz hr; exact right_still X k w hk
theorem right_7 (X : W) (w : World) : Calls Try.prog 40 #[.int .u32 (X.toNat : Int), .int .i64 7] w fun e w' => e = .returned (.int .u32 ((Sha.rotl X 25).toNat : Int)) ∧ w' = w := right_lit X 7 7 25 w rfl rfl (by omega)
theorem right_18 (X : W) (w : World) : Calls Try.prog 40 #[.int .u32 (X.toNat : Int), .int .i64 18] w fun e w' => e = .returned (.int .u32 ((Sha.rotl X 14).toNat : Int)) ∧ w' = w := right_lit X 18 18 14 w rfl rfl (by omega)
theorem right_17 (X : W) (w : World) : Calls Try.prog 40 #[.int .u32 (X.toNat : Int), .int .i64 17] w fun e w' => e = .returned (.int .u32 ((Sha.rotl X 15).toNat : Int)) ∧ w' = w := right_lit X 17 17 15 w rfl rfl (by omega)
theorem right_19 (X : W) (w : World) : Calls Try.prog 40 #[.int .u32 (X.toNat : Int), .int .i64 19] w fun e w' => e = .returned (.int .u32 ((Sha.rotl X 13).toNat : Int)) ∧ w' = w := right_lit X 19 19 13 w rfl rfl (by omega)
theorem right_6 (X : W) (w : World) : Calls Try.prog 40 #[.int .u32 (X.toNat : Int), .int .i64 6] w fun e w' => e = .returned (.int .u32 ((Sha.rotl X 26).toNat : Int)) ∧ w' = w := right_lit X 6 6 26 w rfl rfl (by omega)
theorem right_11 (X : W) (w : World) : Calls Try.prog 40 #[.int .u32 (X.toNat : Int), .int .i64 11] w fun e w' => e = .returned (.int .u32 ((Sha.rotl X 21).toNat : Int)) ∧ w' = w := right_lit X 11 11 21 w rfl rfl (by omega)
theorem right_25 (X : W) (w : World) : Calls Try.prog 40 #[.int .u32 (X.toNat : Int), .int .i64 25] w fun e w' => e = .returned (.int .u32 ((Sha.rotl X 7).toNat : Int)) ∧ w' = w := right_lit X 25 25 7 w rfl rfl (by omega)
theorem right_2 (X : W) (w : World) : Calls Try.prog 40 #[.int .u32 (X.toNat : Int), .int .i64 2] w fun e w' => e = .returned (.int .u32 ((Sha.rotl X 30).toNat : Int)) ∧ w' = w := right_lit X 2 2 30 w rfl rfl (by omega)
theorem right_13 (X : W) (w : World) : Calls Try.prog 40 #[.int .u32 (X.toNat : Int), .int .i64 13] w fun e w' => e = .returned (.int .u32 ((Sha.rotl X 19).toNat : Int)) ∧ w' = w := right_lit X 13 13 19 w rfl rfl (by omega)
theorem right_22 (X : W) (w : World) : Calls Try.prog 40 #[.int .u32 (X.toNat : Int), .int .i64 22] w fun e w' => e = .returned (.int .u32 ((Sha.rotl X 10).toNat : Int)) ∧ w' = w := right_lit X 22 22 10 w rfl rfl (by omega)
theorem own_emptyW (w : World) (base : Nat) (hb : base ≤ w.heap.size) : (w.alloc (.cells #[] 53)).ownsRow base 53 1 (.slice (some ⟨w.heap.size, 0, none⟩) 0 0) 0 (WL []) := by
  have h := World.ownsRow_lit (base := base) (e := 53) (size := 1) w #[] 0 hb (by simp [maxLen]) (by simp)
  simpa [WL] using h
theorem cells8 {w' : World} {gv : Nat} {a b c d e f g h : W} (H : ∀ k u, (WL [a, b, c, d, e, f, g, h])[k]? = some u → w'.cell? ⟨gv, k, none⟩ = some u) :
    w'.cell? ⟨gv, 0, none⟩ = some (.int .u32 (a.toNat : Int)) ∧ w'.cell? ⟨gv, 1, none⟩ = some (.int .u32 (b.toNat : Int)) ∧ w'.cell? ⟨gv, 2, none⟩ = some (.int .u32 (c.toNat : Int)) ∧ w'.cell? ⟨gv, 3, none⟩ = some (.int .u32 (d.toNat : Int)) ∧
      w'.cell? ⟨gv, 4, none⟩ = some (.int .u32 (e.toNat : Int)) ∧ w'.cell? ⟨gv, 5, none⟩ = some (.int .u32 (f.toNat : Int)) ∧ w'.cell? ⟨gv, 6, none⟩ = some (.int .u32 (g.toNat : Int)) ∧ w'.cell? ⟨gv, 7, none⟩ = some (.int .u32 (h.toNat : Int)) :=
  ⟨H 0 _ rfl, H 1 _ rfl, H 2 _ rfl, H 3 _ rfl, H 4 _ rfl, H 5 _ rfl, H 6 _ rfl, H 7 _ rfl⟩
theorem padded_le (l : List UInt8) : (Sha.padded l).length ≤ l.length + 73 := by
  have := zs_lt l.length
  simp [Sha.padded, Sha.be8]; omega
theorem chunk_step (k : Nat) (H : Sha.V8) (P : List UInt8) (m : Nat) : Sha.chunks (k + 1) H (P.drop m) = Sha.chunks k (Sha.comp2 H ((P.drop m).take 64)) (P.drop (m + 64)) := by
  rw [Sha.chunks, List.drop_drop]

theorem WL_get (l : List W) (j : Nat) (h : j < l.length) : (WL l)[j]? = some (.int .u32 ((l.getD j 0).toNat : Int)) := by
  rw [WL, List.getElem?_map, List.getElem?_eq_getElem h, List.getD_eq_getElem?_getD, List.getElem?_eq_getElem h]; rfl
theorem step_append_word {ops : Array Oper} {o : Oper} {a : Act} {K : Act → World → Prop} {Q : Exit → Act → World → Prop} {E : Prop} {w0 w : World} (base : Nat) (hgd : o.guard = none) (s x : Operand)
    (ho : o.op = .call { callee := .builtin .append, args := #[s, x], argTypes := #[54, 54] }) (g n cap : Nat) (l : List W) (X : W) (hs : a.eval s = .slice (some ⟨g, 0, none⟩) n cap)
    (hown : w.ownsRow base 53 1 (.slice (some ⟨g, 0, none⟩) n cap) n (WL l)) (ad : Addr) (k c : Nat) (hx : a.eval x = .slice (some ad) k c) (B : Nat) (hr : Reads w B 1 (some ad) k (WL [X])) (hlen : l.length + 1 ≤ 1000)
    (hbase : base ≤ w.heap.size) (hb : Below base w0 w)
    (h : ∀ A' n' c' w', w'.ownsRow base 53 1 (.slice A' n' c') n' (WL (l ++ [X])) → Below base w0 w' → (∀ j, j < n → w'.cell? ⟨g, j, none⟩ = w.cell? ⟨g, j, none⟩) → K (a.put o.dst (.slice A' n' c')) w') :
    if Region.wanted o (yielded ops a.tmps) = true then Oper.wp Try.prog o a w K Q else E := by
  have hw : Region.wanted o (yielded ops a.tmps) = true := by simp [Region.wanted, hgd]
  rw [if_pos hw]
  obtain ⟨i0, hi0, hz0, hz1, hz2⟩ := info_parts info_u32
  have hn := own_words_length hown
  have hk : 1 = k := by have := hr.1; rw [WL_length] at this; simpa using this
  subst hk
  have hnews : ∀ j u, (WL [X])[j]? = some u → w.cell? (ad.add j) = some u := by
    obtain ⟨ad', e, _, hc⟩ := hr.2 (by omega)
    injection e with e; subst e; exact hc
  rcases Nat.lt_or_ge cap (n + 1) with hfull | hroom
  · have hn0 : 0 < n ∨ n = 0 := by omega
    have hg : g < w.heap.size := by
      rcases hown.2 with ⟨h0, _⟩ | ⟨g', cap', cur, hv, _, hh, _⟩
      · simp at h0
      · have : g = g' := by simpa using (by injection hv : (some (⟨g, 0, none⟩ : Addr)) = some ⟨g', 0, none⟩)
        subst this
        exact Blk.lt (t := 53) (cs := cur) hh
    obtain ⟨v', w', hrun, r1, r2⟩ := run_append_arg_grows (P := Try.prog) w 54 o.type 53 i0 _ 1 4 Try.underlying54 hi0 hz0 hz1 hz2 rfl (by omega) ⟨g, 0, none⟩ n cap (WL l) hown.1 (fun j u hu => hown.cells (g := g) rfl j u hu) ad 1 c (WL [X]) rfl hnews hfull (by simp only [maxLen]; omega) (by omega)
    obtain ⟨A', c', rfl⟩ := own_form r1
    rw [WL_append] at r1
    unfold Oper.wp
    simp [execOp, ho, resolve, invoke, builtin, hs, hx, hrun, Result.andThen]
    refine h A' _ c' w' (own_base_le r1 hbase) (hb.grown r2 hbase (by intro k hk; cases hk)) (fun j _ => World.cell?_of_block (r2.block g hg (by simp)))
  · obtain ⟨w', hrun, r1, r2⟩ := run_append_fits (P := Try.prog) w base 54 o.type 53 i0 1 Try.underlying54 hi0 hz1 g n cap (WL l) hown ad 1 c (WL [X]) rfl hnews (WL_one _) hroom
    rw [WL_append] at r1
    unfold Oper.wp
    simp [execOp, ho, resolve, invoke, builtin, hs, hx, hrun, Result.andThen]
    refine h _ _ _ w' r1 (hb.grown r2 hbase fun k hk => (hown.lt k hk).1) (fun j hj => ?_)
    have h1 := hown.cells (g := g) rfl j _ (WL_get l j (by omega))
    have h2 := r1.cells (g := g) rfl j _ (WL_get (l ++ [X]) j (by rw [List.length_append]; omega))
    have e : (l ++ [X]).getD j 0 = l.getD j 0 := by rw [List.getD_eq_getElem?_getD, List.getElem?_append_left (by omega), List.getD_eq_getElem?_getD]
    rw [e] at h2
    rw [Addr.add_mid, Nat.zero_add] at h1 h2
    rw [h1, h2]
set_option maxRecDepth 100000 in
set_option maxHeartbeats 8000000 in
theorem rsha_any (A : Option Addr) (n c : Nat) (l : List UInt8) (w : World) (hr : Reads w w.heap.size 1 A n (B8 l)) (hn : n ≤ 140737488355000) :
    Calls Try.prog 23 #[.slice A n c] w (RetB w (Sha.sha l)) := by
  have hl := hr.bytes_length
  obtain ⟨P, hP⟩ : ∃ P, P = Sha.padded l := ⟨_, rfl⟩
  obtain ⟨K, hK⟩ : ∃ K, K = P.length / 64 := ⟨_, rfl⟩
  have hPK : P.length = 64 * K := by have := Sha.padded_length l; rw [← hP] at this; omega
  obtain ⟨V, hV⟩ : ∃ V, V = Sha.chunks K Sha.H0 P := ⟨_, rfl⟩
  obtain ⟨R, hR⟩ : ∃ R, R = V.list.flatMap Sha.wb := ⟨_, rfl⟩
  have hR2 : Sha.sha l = R := by rw [hR, hV, hK, hP]; rfl
  rw [hR2]
  have HP := Lib.hid (And.intro hP (And.intro hPK (And.intro hV hR)))
  have HR0 := Lib.hid (And.intro hr hl)
  clear hP hK hPK hV hR hR2 hr hl
  go_enter Try.func23, Try.ntmps23
  go_wp2_with (first
    | (refine wpList_run (o := ⟨some 18, _, _, _, _, _⟩) (by rfl) (.slice (some ⟨w.heap.size, 0, none⟩) 8 8) (w.alloc (.cells (WV Sha.H0.list) 53)) (by kernel_rfl) ?_))
  refine (k256_any _).mono ?_
  rintro e w2 ⟨rfl, hw2⟩
  have hH := Blk.new w 53 (WV Sha.H0.list)
  have hsz : (w.alloc (.cells (WV Sha.H0.list) 53)).heap.size = w.heap.size + 1 := by simp
  have hb0 : Below w.heap.size w (w.alloc (.cells (WV Sha.H0.list) 53)) := (Below.refl _ _).alloc (Nat.le_refl _) _
  rw [hsz]
  generalize w.alloc (.cells (WV Sha.H0.list) 53) = w1 at *
  have hKB := Blk.new_ w1 53 (WV Sha.K256) hsz
  have hH2 := hH.alloc (.cells (WV Sha.K256) 53)
  have hb2 := hb0.alloc (by omega) (.cells (WV Sha.K256) 53)
  have hsz2 : (w1.alloc (.cells (WV Sha.K256) 53)).heap.size = w.heap.size + 1 + 1 := by simp [hsz]
  rw [← hw2] at hKB hH2 hb2 hsz2
  have H2 := Lib.hid (And.intro hKB (And.intro hH2 (And.intro hb2 hsz2)))
  clear hKB hH2 hb2 hsz2 hw2 hH hsz hb0
  go_wp2_with fail
  refine (padded_any A n c l _ (HR0.out.1.up H2.out.2.2.1) hn).mono ?_
  rintro e w3 ⟨Ap, np, cp, rfl, hO3⟩
  rw [← HP.out.1] at hO3
  have hnpP := hO3.len
  have hX3 := own_readsX (g := w.heap.size) hO3.own (by rw [H2.out.2.2.2]; omega)
  have hcp := own_cap hO3.own
  have hK3 := H2.out.1.after hO3.below
  have hH3 := H2.out.2.1.after hO3.below
  have hb3 := below_then H2.out.2.2.1 hO3.below
  have hs3 : w.heap.size + 1 < w3.heap.size := hK3.lt
  have H3 := Lib.hid (And.intro hX3 (And.intro hK3 (And.intro hb3 (And.intro hs3 hnpP))))
  clear H2 hO3 hX3 hK3 hb3 hs3
  go_wp2_with fail
  go_loopw [6] (fun i wr => ∃ (r : Nat) (H : Sha.V8), r ≤ K ∧ i = .int .i64 ((64 * r : Nat) : Int) ∧ Blk wr w.heap.size 53 (WV H.list) ∧ Hid (Sha.chunks (K - r) H (P.drop (64 * r)) = V) ∧ w3.grownBy wr (some w.heap.size)) (fun i _ => (np - intOf i).toNat)
  case atStart => exact ⟨0, Sha.H0, Nat.zero_le _, rfl, hH3, Lib.hid (by rw [HP.out.2.2.1]; rfl), World.grownBy.refl _ _⟩
  case round =>
    clear hH3
    obtain ⟨r, H, hr, rfl, hH, hch, hgr⟩ := hrel
    obtain ⟨m, hm⟩ : ∃ m, m = 64 * r := ⟨_, rfl⟩
    rw [← hm] at hch ⊢
    have hnp : np = 64 * K := by rw [← hnpP]; exact HP.out.2.1
    have m0 : (0 : Int) ≤ (m : Int) := by omega
    by_cases hrK : r < K
    · have hmn : (m : Int) < (np : Int) := by omega
      have hmn64 : (m : Int) + 64 ≤ (np : Int) := by omega
      have hcI : (np : Int) ≤ (cp : Int) := by omega
      have hcm : ¬ (cp = m) := by omega
      have hnpI : (np : Int) ≤ 140737488355328 := by have := padded_le l; rw [← HP.out.1, HR0.out.2] at this; have := H3.out.2.2.2.2; omega
      have hX := H3.out.1.keep hgr
      obtain ⟨ad, rfl, -⟩ := hX.at_ (by omega)
      have hW := readsX_part hX (m := m) (by omega)
      obtain ⟨b, hb⟩ : ∃ b, b = (P.drop m).take 64 := ⟨_, rfl⟩
      rw [← hb] at hW
      have HB := Lib.hid (And.intro hb (And.intro hm (And.intro hrK (And.intro hch.out hnp))))
      have HH := Lib.hid (And.intro hH (And.intro hgr hW))
      clear hb hm hrK hch hH hgr hW hX hnp hr
      obtain ⟨wo, hwo⟩ : ∃ wo, wo = wr := ⟨_, rfl⟩
      subst hwo
      go_wp2_with fail
      refine (words_any (some (ad.add m)) (cp - m) b wo HH.out.2.2).mono ?_
      rintro e w4 ⟨Aw, nw, cw, rfl, hown4, hb4⟩
      have H4 := Lib.hid (And.intro hown4 hb4)
      clear hown4 hb4 hmn hmn64 hcI hcm hnpI
      go_wp2_with fail
      go_loopw [7, 8] (fun v i wq => ∃ (q ni : Nat) (A1 : Option Addr) (c1 : Nat), 16 ≤ q ∧ q ≤ 64 ∧ v = .slice A1 ni c1 ∧ i = .int .i64 (q : Int) ∧ Hid (wq.ownsRow wo.heap.size 53 1 (.slice A1 ni c1) ni (WL (Sha.sched b q))) ∧ Below wo.heap.size wo wq) (fun _ i _ => (64 - intOf i).toNat)
      case atStart => exact ⟨16, nw, Aw, cw, by omega, by omega, rfl, rfl, Lib.hid H4.out.1, H4.out.2⟩
      case round =>
        clear H4
        obtain ⟨q, ni, A1, c1, hq16, hq64, rfl, rfl, hown, hbq⟩ := hrel
        have hni : ni = q := by have h1 := own_words_length hown.out; rw [Sha.sched_length] at h1; exact h1.symm
        subst hni
        obtain ⟨g1, cap1, hv1, hg1, hg2⟩ := hown.out.form (by omega)
        injection hv1 with hA1 _ hc1
        subst hA1 hc1
        have hcell : ∀ j, j < ni → wr.cell? ⟨g1, j, none⟩ = some (.int .u32 (((Sha.sched b ni).getD j 0).toNat : Int)) := fun j hj => by
          have := hown.out.cells (g := g1) rfl j _ (WL_get _ j (by rw [Sha.sched_length]; exact hj))
          rwa [Addr.add_mid, Nat.zero_add] at this
        have HC := Lib.hid hcell
        have HBq := Lib.hid hbq
        have hle := hbq.size
        clear hcell hbq
        by_cases h64 : ni < 64
--L2{
        · have x0 : (0 : Int) ≤ (ni : Int) := by omega
          have x16 : (16 : Int) ≤ (ni : Int) := by omega
          have x64 : (ni : Int) < 64 := by omega
          obtain ⟨X15, hX15⟩ : ∃ X : W, X = (Sha.sched b ni).getD (ni - 15) 0 := ⟨_, rfl⟩
          obtain ⟨X2, hX2⟩ : ∃ X : W, X = (Sha.sched b ni).getD (ni - 2) 0 := ⟨_, rfl⟩
          obtain ⟨X16, hX16⟩ : ∃ X : W, X = (Sha.sched b ni).getD (ni - 16) 0 := ⟨_, rfl⟩
          obtain ⟨X7, hX7⟩ : ∃ X : W, X = (Sha.sched b ni).getD (ni - 7) 0 := ⟨_, rfl⟩
          have c15 := HC.out (ni - 15) (by omega)
          have c2 := HC.out (ni - 2) (by omega)
          rw [← hX15] at c15
          rw [← hX2] at c2
          have HX := Lib.hid (And.intro hX15 (And.intro hX2 (And.intro hX16 hX7)))
          clear hX15 hX2 hX16 hX7
          go_wp2_with fail
          go_quiet (fail)
          have c16 : (wr.drewN nq).cell? ⟨g1, ni - 16, none⟩ = some (.int .u32 (X16.toNat : Int)) := by have := HC.out (ni - 16) (by omega); rw [← HX.out.2.2.1] at this; exact this
          have c7 : (wr.drewN nq).cell? ⟨g1, ni - 7, none⟩ = some (.int .u32 (X7.toNat : Int)) := by have := HC.out (ni - 7) (by omega); rw [← HX.out.2.2.2] at this; exact this
          have hown2 := Lib.hid (show (wr.drewN nq).drew.ownsRow wo.heap.size 53 1 (.slice (some ⟨g1, 0, none⟩) ni c1) ni (WL (Sha.sched b ni)) from hown.out)
          have HBq2 := Lib.hid ((below_drewN HBq.out nq).drew)
          have hg2' : g1 < (wr.drewN nq).drew.heap.size := hg2
          have d16 : ∀ o, ((wr.drewN nq).drew.alloc o).cell? ⟨g1, ni - 16, none⟩ = _ := fun o => (World.cell?_alloc_lt _ o _ hg2').trans c16
          have d7 : ∀ o, ((wr.drewN nq).drew.alloc o).cell? ⟨g1, ni - 7, none⟩ = _ := fun o => (World.cell?_alloc_lt _ o _ hg2').trans c7
          have HS := Lib.hid (And.intro c16 (And.intro c7 (And.intro d16 d7)))
          have hle2 : wo.heap.size ≤ (wr.drewN nq).drew.heap.size := hle
          have e16 : IntKind.i64.wrap ((ni : Int) - 16) = (ni : Int) - 16 := IntWalk.i64_in _ (by omega)
          have e16a : (0 : Int) ≤ (ni : Int) - 16 := by omega
          have e16b : (ni : Int) - 16 < (ni : Int) := by omega
          have e16c : ((ni : Int) - 16).toNat = ni - 16 := by omega
          have e7 : IntKind.i64.wrap ((ni : Int) - 7) = (ni : Int) - 7 := IntWalk.i64_in _ (by omega)
          have e7d : (7 : Int) ≤ (ni : Int) := by omega
          have e7a : (0 : Int) ≤ (ni : Int) - 7 := by omega
          have e7b : (ni : Int) - 7 < (ni : Int) := by omega
          have e7c : ((ni : Int) - 7).toNat = ni - 7 := by omega
          clear c15 c2 c16 c7 d16 d7
          go_wp2_with fail
          go_region_held3 (fun w' => w'.cell? ⟨g1, ni - 16, none⟩ = some (.int .u32 (X16.toNat : Int)) ∧ w'.cell? ⟨g1, ni - 7, none⟩ = some (.int .u32 (X7.toNat : Int)))
            (first | exact ⟨HS.out.1, HS.out.2.1⟩ | exact ⟨HS.out.2.2.1 _, HS.out.2.2.2 _⟩ | exact ⟨(hsm _ (by omega)).trans (HS.out.2.2.1 _), (hsm _ (by omega)).trans (HS.out.2.2.2 _)⟩)
            (first
              | (go_at_call 40; ((with_reducible refine (right_7 X15 _).mono ?_); rintro e w' ⟨rfl, rfl⟩))
              | (go_at_call 40; ((with_reducible refine (right_18 X15 _).mono ?_); rintro e w' ⟨rfl, rfl⟩))
              | (go_at_call 40; ((with_reducible refine (right_17 X2 _).mono ?_); rintro e w' ⟨rfl, rfl⟩))
              | (go_at_call 40; ((with_reducible refine (right_19 X2 _).mono ?_); rintro e w' ⟨rfl, rfl⟩))
              | (change (if Region.wanted (Oper.mk (some 79) _ _ _ _ _) _ = true then _ else _); (refine step_append_word (w0 := wo) wo.heap.size (by rfl) (.tmp 48) (.tmp 78) (by rfl) g1 ni c1 (Sha.sched b ni) (addW (addW (addW X16 (xorW (xorW (rotl X15 25) (rotl X15 14)) (shrW X15 3))) X7) (xorW (xorW (rotl X2 15) (rotl X2 13)) (shrW X2 10))) (by rfl) (hown2.out.alloc _) ⟨(wr.drewN nq).drew.heap.size, 0, none⟩ 1 1 (by rfl) ((wr.drewN nq).drew.heap.size + 1) (reads_word (wr.drewN nq).drew _ _ rfl) (by rw [Sha.sched_length]; omega) (by simp; omega) (HBq2.out.alloc hle2 _) ?_; intro A2 n2 c2 w7 hown7 hb7 hsm)))
          have hR7 := Lib.hid (show Sha.nextW b (Sha.sched b ni) ni = addW (addW (addW X16 (xorW (xorW (rotl X15 25) (rotl X15 14)) (shrW X15 3))) X7) (xorW (xorW (rotl X2 15) (rotl X2 13)) (shrW X2 10)) by
            rw [Sha.nextW, if_neg (by omega), ← HX.out.1, ← HX.out.2.1, ← HX.out.2.2.1, ← HX.out.2.2.2]; exact (nextW_eq X16 X15 X7 X2).symm)
          clear e16 e16a e16b e16c e7 e7a e7b e7c e7d
          go_wp2_with fail
          go_roundw
          case rel => exact ⟨ni + 1, n2, A2, c2, by omega, by omega, rfl, by go_num, Lib.hid (by rw [Sha.sched, hR7.out]; exact hown7), hb7⟩
          case measure => simp [intOf]; omega
--L2}
        · obtain ⟨ws, hws⟩ : ∃ ws, ws = Sha.sched b ni := ⟨_, rfl⟩
          have hws' : ws = Sha.sched b 64 := by rw [hws]; congr 1; omega
          have hwl : ws.length = 64 := by rw [hws', Sha.sched_length]
          have hni : ni = 64 := by omega
          rw [← hws] at HC
          rw [hni] at HC
          have hx64 : ¬ ((ni : Int) < 64) := by omega
          have HW := Lib.hid (And.intro hws' (And.intro hwl HC.out))
          have hGH := HH.out.1.after HBq.out
          obtain ⟨w6, hw6⟩ : ∃ w6, w6 = wr := ⟨_, rfl⟩
          subst hw6
          have hRH : Reads (w6.alloc (.cells #[] 53)) w6.heap.size 1 (some ⟨w.heap.size, 0, none⟩) 8 (WL H.list) := by
            refine ⟨rfl, fun _ => ⟨_, rfl, hGH.lt, fun j u hu => ?_⟩⟩
            rw [Addr.add_mid, Nat.zero_add]
            refine ((hGH.alloc _).cell j).trans ?_
            rw [WV]; simpa using hu
          have hKB6 := (H3.out.2.1.grown HH.out.2.1 (by simp)).after HBq.out
          have H6 := Lib.hid (And.intro hGH (And.intro hg1 (And.intro hg2 (And.intro hRH hKB6))))
          have HNI := Lib.hid hni
          clear HC hws hws' hwl h64 hGH hq16 hq64 hni hown hRH hg1 hg2 hKB6
          go_wp2_with (first
            | (at_builtin; refine wpList_append_words (w0 := w6) w6.heap.size (by rfl) (.tmp 80) (.tmp 81) (by rfl) _ 0 [] H.list (by rfl) (own_emptyW _ _ (Nat.le_refl _)) (some ⟨w.heap.size, 0, none⟩) 8 8 (by rfl) w6.heap.size H6.out.2.2.2.1 (by simp [Sha.V8.list]) (by simp) ((Below.refl _ _).alloc (Nat.le_refl _) _) ?_; intro A7 n7 c7 w7 hown7 hb7 _))
          have hn7 := own_words_length hown7
          obtain rfl : n7 = 8 := by rw [← hn7]; rfl
          obtain ⟨g7, cap7, hv7, hg7a, hg7b⟩ := hown7.form (by omega)
          injection hv7 with hA7 _ hc7
          subst hA7 hc7
          have hcell7 : ∀ j u, (WL H.list)[j]? = some u → w7.cell? ⟨g7, j, none⟩ = some u := fun j u hu => by
            have := hown7.cells (g := g7) rfl j u hu
            rwa [Addr.add_mid, Nat.zero_add] at this
          go_loopw [11, 12] (fun v i wq => ∃ (j gv cv : Nat), j ≤ 64 ∧ v = .slice (some ⟨gv, 0, none⟩) 8 cv ∧ i = .int .i64 (j : Int) ∧ 8 ≤ cv ∧ w6.heap.size ≤ gv ∧ gv < wq.heap.size ∧ Hid (∀ k u, (WL (Sha.rounds Sha.ch2 Sha.mj2 ws H j).list)[k]? = some u → wq.cell? ⟨gv, k, none⟩ = some u) ∧ Below w6.heap.size w6 wq) (fun _ i _ => (64 - intOf i).toNat)
          case atStart => exact ⟨0, g7, c7, by omega, rfl, rfl, own_cap hown7, hg7a, hg7b, Lib.hid hcell7, hb7⟩
          case round =>
            clear hown7 hb7 hn7 hg7a hg7b hcell7
            obtain ⟨j, gv, cv, hj, rfl, rfl, hcv, hgv6, hgv, hcl, hbv⟩ := hrel
            have HBv := Lib.hid hbv
            have j0 : (0 : Int) ≤ (j : Int) := by omega
            obtain ⟨v, hv⟩ : ∃ v, v = Sha.rounds Sha.ch2 Sha.mj2 ws H j := ⟨_, rfl⟩
            rw [← hv] at hcl
            have HR := Lib.hid hv
            clear hv hbv
            by_cases hj64 : j < 64
--L3{
            · have jI : (j : Int) < 64 := by omega
              have jN : (j : Int) < (ni : Int) := by have := HNI.out; omega
              obtain ⟨va, vb, vc, vd, ve, vf, vg, vh⟩ := v
              have HV := Lib.hid (fun w' (h : ∀ k u, (WL [va, vb, vc, vd, ve, vf, vg, vh])[k]? = some u → w'.cell? ⟨gv, k, none⟩ = some u) => cells8 (w' := w') h)
              obtain ⟨x, hx⟩ : ∃ x : W, x = ws.getD j 0 := ⟨_, rfl⟩
              obtain ⟨kx, hkx⟩ : ∃ x : W, x = Sha.K256.getD j 0 := ⟨_, rfl⟩
              have cw : wr.cell? ⟨g1, j, none⟩ = some (.int .u32 (x.toNat : Int)) := by
                rw [HBv.out.cell (by exact H6.out.2.2.1), hx]; exact HW.out.2.2 j hj64
              have ck : wr.cell? ⟨w.heap.size + 1, j, none⟩ = some (.int .u32 (kx.toNat : Int)) := by
                rw [HBv.out.cell (by exact H6.out.2.2.2.2.lt), H6.out.2.2.2.2.cell, WV_at _ _ (by simpa [Sha.K256] using hj64), hkx]
              have HXK := Lib.hid (And.intro hx (And.intro hkx (And.intro cw ck)))
              obtain ⟨v0, v1, v2, v3, v4, v5, v6, v7⟩ := HV.out wr hcl.out
              have HV8 := Lib.hid (And.intro v0 (And.intro v1 (And.intro v2 (And.intro v3 (And.intro v4 (And.intro v5 (And.intro v6 v7)))))))
              clear hx hkx cw ck v1 v2 v3 v5 v6 v7 hcl
              go_wp2_with fail
              go_quiet (fail)
              go_wp2_with fail
              clear v0 v4
              have v4 : (wr.drewN nq).drew.cell? ⟨gv, 4, none⟩ = some (.int .u32 (ve.toNat : Int)) := HV8.out.2.2.2.2.1
              have v5 : (wr.drewN nq).drew.cell? ⟨gv, 5, none⟩ = some (.int .u32 (vf.toNat : Int)) := HV8.out.2.2.2.2.2.1
              have v6 : (wr.drewN nq).drew.cell? ⟨gv, 6, none⟩ = some (.int .u32 (vg.toNat : Int)) := HV8.out.2.2.2.2.2.2.1
              have v7 : (wr.drewN nq).drew.cell? ⟨gv, 7, none⟩ = some (.int .u32 (vh.toNat : Int)) := HV8.out.2.2.2.2.2.2.2
              have cw : (wr.drewN nq).drew.cell? ⟨g1, j, none⟩ = some (.int .u32 (x.toNat : Int)) := HXK.out.2.2.1
              have ck : (wr.drewN nq).drew.cell? ⟨w.heap.size + 1, j, none⟩ = some (.int .u32 (kx.toNat : Int)) := HXK.out.2.2.2
              have HBv2 := Lib.hid ((below_drewN HBv.out nq).drew)
              have HV8' := Lib.hid (show (wr.drewN nq).drew.cell? ⟨gv, 0, none⟩ = some (.int .u32 (va.toNat : Int)) ∧ (wr.drewN nq).drew.cell? ⟨gv, 1, none⟩ = some (.int .u32 (vb.toNat : Int)) ∧ (wr.drewN nq).drew.cell? ⟨gv, 2, none⟩ = some (.int .u32 (vc.toNat : Int)) ∧ (wr.drewN nq).drew.cell? ⟨gv, 3, none⟩ = some (.int .u32 (vd.toNat : Int)) ∧ (wr.drewN nq).drew.cell? ⟨gv, 5, none⟩ = some (.int .u32 (vf.toNat : Int)) ∧ (wr.drewN nq).drew.cell? ⟨gv, 6, none⟩ = some (.int .u32 (vg.toNat : Int)) from ⟨HV8.out.1, HV8.out.2.1, HV8.out.2.2.1, HV8.out.2.2.2.1, HV8.out.2.2.2.2.2.1, HV8.out.2.2.2.2.2.2.1⟩)
              have hgv8 : gv < (wr.drewN nq).drew.heap.size := hgv
              refine wp_region_still_lit (by kernel_rfl) (by kernel_rfl) ?_
              change wpStill _ _ (wr.drewN nq).drew (fun a' => (_ : Exit → Act → World → Prop) Exit.normal a' (wr.drewN nq).drew) _ _
              generalize (wr.drewN nq).drew = w8 at *
              repeat still_step
              still_call (right_6 ve w8)
              repeat still_step
              still_call (right_11 ve w8)
              repeat still_step
              still_call (right_25 ve w8)
              repeat still_step
              refine wpStill_nil ?_
              clear v4 v5 v6 v7 cw ck
              obtain ⟨tt, htt⟩ : ∃ X : W, X = addW (addW (addW (addW vh (xorW (xorW (rotl ve 26) (rotl ve 21)) (rotl ve 7))) (xorW (andW ve vf) (andW (notW ve) vg))) kx) x := ⟨_, rfl⟩
              rw [← htt]
              have HT := Lib.hid htt
              clear htt
              go_wp2_with fail
              have v1 : w8.drew.cell? ⟨gv, 1, none⟩ = some (.int .u32 (vb.toNat : Int)) := HV8'.out.2.1
              have v2 : w8.drew.cell? ⟨gv, 2, none⟩ = some (.int .u32 (vc.toNat : Int)) := HV8'.out.2.2.1
              have HV9 := Lib.hid (show w8.drew.cell? ⟨gv, 0, none⟩ = some (.int .u32 (va.toNat : Int)) ∧ w8.drew.cell? ⟨gv, 1, none⟩ = some (.int .u32 (vb.toNat : Int)) ∧ w8.drew.cell? ⟨gv, 2, none⟩ = some (.int .u32 (vc.toNat : Int)) ∧ w8.drew.cell? ⟨gv, 3, none⟩ = some (.int .u32 (vd.toNat : Int)) ∧ w8.drew.cell? ⟨gv, 5, none⟩ = some (.int .u32 (vf.toNat : Int)) ∧ w8.drew.cell? ⟨gv, 6, none⟩ = some (.int .u32 (vg.toNat : Int)) from HV8'.out)
              have HBv3 := Lib.hid HBv2.out.drew
              have hgv9 : gv < w8.drew.heap.size := hgv8
              clear HV8' HBv2 hgv8
              refine wp_region_still_lit (by kernel_rfl) (by kernel_rfl) ?_
              change wpStill _ _ w8.drew (fun a' => (_ : Exit → Act → World → Prop) Exit.normal a' w8.drew) _ _
              generalize w8.drew = w9 at *
              repeat still_step
              still_call (right_2 va w9)
              repeat still_step
              still_call (right_13 va w9)
              repeat still_step
              still_call (right_22 va w9)
              repeat still_step
              refine wpStill_nil ?_
              clear v1 v2
              obtain ⟨uu, huu⟩ : ∃ X : W, X = addW (xorW (xorW (rotl va 30) (rotl va 19)) (rotl va 10)) (xorW (xorW (andW va vb) (andW va vc)) (andW vb vc)) := ⟨_, rfl⟩
              rw [← huu]
              have HU := Lib.hid huu
              clear huu
              go_wp2_with fail
              have v1 : w9.drew.cell? ⟨gv, 1, none⟩ = some (.int .u32 (vb.toNat : Int)) := HV9.out.2.1
              have v2 : w9.drew.cell? ⟨gv, 2, none⟩ = some (.int .u32 (vc.toNat : Int)) := HV9.out.2.2.1
              have v3 : w9.drew.cell? ⟨gv, 3, none⟩ = some (.int .u32 (vd.toNat : Int)) := HV9.out.2.2.2.1
              have v5 : w9.drew.cell? ⟨gv, 5, none⟩ = some (.int .u32 (vf.toNat : Int)) := HV9.out.2.2.2.2.1
              have v6 : w9.drew.cell? ⟨gv, 6, none⟩ = some (.int .u32 (vg.toNat : Int)) := HV9.out.2.2.2.2.2
              have HB10 := Lib.hid HBv3.out.drew
              clear HBv3 HV9 hgv9
              refine wp_region_still_tail 22 (by kernel_rfl) (by kernel_rfl) ?_
              change wpStill _ _ w9.drew (fun a' => wpList _ _ _ _ a' w9.drew) _ _
              simp only [List.take_succ_cons, List.take_zero, List.drop_succ_cons, List.drop_zero]
              generalize w9.drew = w10 at *
              repeat still_step
              refine wpStill_nil ?_
              clear v1 v2 v3 v5 v6
              go_wp2_with fail
              go_roundw
              case rel =>
                refine ⟨j + 1, w10.heap.size, 8, by omega, rfl, by go_num, by omega, HB10.out.size, by simp, Lib.hid ?_, HB10.out.alloc HB10.out.size _⟩
                intro k u hu
                refine ((Blk.new w10 53 (WV [addW tt uu, va, vb, vc, addW vd tt, ve, vf, vg])).cell k).trans ?_
                rw [show Sha.rounds Sha.ch2 Sha.mj2 ws H (j + 1) = Sha.rnd Sha.ch2 Sha.mj2 (Sha.rounds Sha.ch2 Sha.mj2 ws H j) (Sha.K256.getD j 0) (ws.getD j 0) from rfl, ← HR.out, ← HXK.out.1, ← HXK.out.2.1] at hu
                rw [WV, HT.out, HU.out, List.getElem?_toArray]; exact hu
              case measure => simp [intOf]; omega
--L3}
            · have hj64' : j = 64 := by omega
              have hjI : ¬ ((j : Int) < 64) := by omega
              have hE := Lib.hid (show H.add v = Sha.comp2 H b by rw [HR.out, hj64', HW.out.1]; rfl)
              have hG9 := H6.out.1.after HBv.out
              have hGw : w.heap.size < w6.heap.size := H6.out.1.lt
              have hcl9 : ∀ k, k < 8 → wr.cell? ⟨gv, k, none⟩ = some (.int .u32 ((v.list.getD k 0).toNat : Int)) := fun k hk => hcl.out k _ (WL_get _ k hk)
              have HC9 := Lib.hid hcl9
              have hgr9 : w3.grownBy wr (some w.heap.size) := (HH.out.2.1.trans (only_of_below HBq.out _)).trans (only_of_below HBv.out _)
              obtain ⟨w9, hw9⟩ : ∃ w9, w9 = wr := ⟨_, rfl⟩
              subst hw9
              clear hcl hcl9 hj64' hj64
              go_wp2_with fail
              go_loopw [17] (fun i wq => ∃ n : Nat, n ≤ 8 ∧ i = .int .i64 (n : Int) ∧ Blk wq w.heap.size 53 (WV (mix (H.add v).list H.list n)) ∧ Hid (w9.grownBy wq (some w.heap.size))) (fun i _ => (8 - intOf i).toNat)
              case atStart => exact ⟨0, by omega, rfl, by rw [mix_zero]; exact hG9, Lib.hid (World.grownBy.refl _ _)⟩
              case round =>
                clear hG9
                obtain ⟨n3, hn3, rfl, hG, hgr⟩ := hrel
                by_cases h8 : n3 < 8
                · obtain ⟨X, hX⟩ : ∃ X : W, X = H.list.getD n3 0 := ⟨_, rfl⟩
                  obtain ⟨Y, hY⟩ : ∃ Y : W, Y = v.list.getD n3 0 := ⟨_, rfl⟩
                  have hl8 := mix_length (H.add v).list H.list n3 rfl rfl (by omega)
                  have kg : wr.drew.cell? ⟨w.heap.size, n3, none⟩ = some (.int .u32 (X.toNat : Int)) := by
                    rw [hG.drew.cell, WV_at _ _ (by omega), mix_getD _ _ _ rfl rfl h8, hX]
                  have kv : wr.drew.cell? ⟨gv, n3, none⟩ = some (.int .u32 (Y.toNat : Int)) := by
                    rw [hY]
                    exact (World.cell?_of_block (hgr.out.block gv hgv (by simp; omega))).trans (HC9.out n3 h8)
                  have kf := hG.drew.frozen n3
                  have HXY := Lib.hid (show addW X Y = (H.add v).list.getD n3 0 by rw [hX, hY, add_getD _ _ _ h8])
                  have HHH := Lib.hid (And.intro hl8 (And.intro hG.drew (only_drew hgr.out)))
                  clear hX hY hl8 hG hgr
                  have x30 : (0 : Int) ≤ (n3 : Int) := by omega
                  have x38 : (n3 : Int) < 8 := by omega
                  go_wp2_with fail
                  refine wp_region_still_tail 12 (by kernel_rfl) (by kernel_rfl) ?_
                  change wpStill _ _ wr.drew (fun a' => wpList _ _ _ _ a' wr.drew) _ _
                  simp only [List.take_succ_cons, List.take_zero, List.drop_succ_cons, List.drop_zero]
                  generalize wr.drew = w11 at *
                  repeat still_step
                  refine wpStill_nil ?_
                  go_wp2_with fail
                  go_roundw
                  case rel =>
                    obtain ⟨hl8, hG, hgr⟩ := HHH.out
                    have h1 := hG.set_ n3 (.int .u32 ((addW X Y).toNat : Int))
                    rw [WV_set, HXY.out, mix_set _ _ _ rfl rfl h8] at h1
                    refine ⟨n3 + 1, by omega, by go_num, ?_, Lib.hid (only_setCell (p := ⟨w.heap.size, n3, none⟩) hgr (.inl rfl) _)⟩
                    rw [← HXY.out] at h1
                    exact h1
                  case measure => simp [intOf]; omega
                · have h8' : ¬ ((n3 : Int) < 8) := by omega
                  obtain rfl : n3 = 8 := by omega
                  rw [mix_all _ _ rfl rfl, hE.out] at hG
                  have HG := Lib.hid hG
                  obtain ⟨hb, hm, hrK, hch, hnp⟩ := HB.out
                  have hmn : (m : Int) + 64 ≤ (np : Int) := by omega
                  have hmb : (m : Int) ≤ 140737488355328 := by have := padded_le l; rw [← HP.out.1, HR0.out.2] at this; have := H3.out.2.2.2.2; omega
                  have HE2 := Lib.hid (And.intro hm (And.intro hrK hnp))
                  clear hb hm hrK hnp hch h8 h8' hG
                  go_wp2_with fail
                  go_roundw
                  case rel =>
                    refine ⟨r + 1, Sha.comp2 H b, HE2.out.2.1, by have := HE2.out.1; go_num, HG.out, Lib.hid ?_, hgr9.trans hgr.out⟩
                    obtain ⟨hb, hm, hrK, hch, hnp⟩ := HB.out
                    rw [← hch, show K - r = (K - (r + 1)) + 1 from by omega, chunk_step, ← hb, show m + 64 = 64 * (r + 1) from by omega]
                  case measure => have := HE2.out; simp [intOf]; omega
    · obtain rfl : r = K := by omega
      have hV : V = H := by rw [← hch.out, Nat.sub_self]; rfl
      subst hV
      have hRH : Reads wr wr.heap.size 1 (some ⟨w.heap.size, 0, none⟩) 8 (WL V.list) := by
        refine ⟨rfl, fun _ => ⟨_, rfl, hH.lt, fun j u hu => ?_⟩⟩
        rw [Addr.add_mid, Nat.zero_add]
        refine (hH.cell j).trans ?_
        rw [WV]; simpa using hu
      have HE2 := Lib.hid (And.intro hRH (And.intro hgr hm))
      have hx : ¬ ((m : Int) < (np : Int)) := by omega
      clear hRH hH hch hgr hm hrK
      go_wp2_with fail
      refine (rbytes8_any (some ⟨w.heap.size, 0, none⟩) 8 8 V.list wr HE2.out.1 (by omega)).mono ?_
      rintro e w12 ⟨A9, n9, c9, rfl, hO9⟩
      rw [← HP.out.2.2.2] at hO9
      go_wp2_with fail
      go_ret
      exact RetB.of_call (H3.out.2.2.1.grown HE2.out.2.1 H3.out.2.2.1.size (by intro k hk; injection hk with hk; omega)) hO9
end Go.Proofs.Ytjnakhgpenafdaa
