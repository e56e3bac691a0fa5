/- canon's Reader: what each method reads, and what is left. -/
import Derived.Test.YtjnakhgpenafdaaRd0
import Derived.Laws.LoneSync
import Derived.Laws.BitsLemmas
import Derived.RegionCalls
import Derived.Deep.RegionWith
namespace Go.Proofs.Ytjnakhgpenafdaa
open Go.RowKit
set_option linter.unusedVariables false
set_option linter.unusedSimpArgs false
def flag (bad : Bool) : Int := if bad then 1 else 0
/-- a canon reader at block g: what is left, is it broken -/
structure RdC (w : World) (g : Nat) (A : Option Addr) (n c : Nat) (B : List UInt8) (bad : Bool) : Prop where
  blk : Blk w g 85 #[.slice A n c, .int .u32 (flag bad)]
  rd : Reads w g 1 A n (B8 B)
  cap : n ≤ c
section
variable {w w' : World} {g : Nat} {A : Option Addr} {n c : Nat} {B : List UInt8} {bad : Bool}
theorem RdC.len (h : RdC w g A n c B bad) : B.length = n := h.rd.bytes_length
theorem RdC.lt (h : RdC w g A n c B bad) : g < w.heap.size := h.blk.lt
theorem RdC.grown (h : RdC w g A n c B bad) {row : Option Nat} (hg : w.grownBy w' row) (hr : ∀ k, row = some k → g < k) : RdC w' g A n c B bad :=
  ⟨h.blk.grown hg (fun e => by have := hr g e.symm; omega), h.rd.grown hg (Nat.le_of_lt h.lt) (fun k hk => Nat.le_of_lt (hr k hk)), h.cap⟩
theorem RdC.drewN (h : RdC w g A n c B bad) (k : Nat) : RdC (w.drewN k) g A n c B bad := ⟨h.blk, h.rd, h.cap⟩
theorem RdC.below (h : RdC w g A n c B bad) (hb : Below w.heap.size w w') : RdC w' g A n c B bad := h.grown (only_of_below hb none) (by simp)
theorem RdC.far (h : RdC w g A n c B bad) {q : Addr} (hq : g < q.block) (u : Value) : RdC (w.setCell q u) g A n c B bad := ⟨h.blk.far (Nat.ne_of_lt hq) u, h.rd.setCell (Nat.le_of_lt hq) u, h.cap⟩
theorem RdC.setBad (h : RdC w g A n c B bad) : RdC (w.setCell ⟨g, 1, none⟩ (.int .u32 1)) g A n c B true := ⟨h.blk.set_ 1 _, h.rd.setCell (Nat.le_refl _) _, h.cap⟩
theorem RdC.setRest (h : RdC w g A n c B bad) {A' : Option Addr} {n' c' : Nat} {B' : List UInt8} (hr : Reads w g 1 A' n' (B8 B')) (hc : n' ≤ c') : RdC (w.setCell ⟨g, 0, none⟩ (.slice A' n' c')) g A' n' c' B' bad := ⟨h.blk.set_ 0 _, hr.setCell (Nat.le_refl _) _, hc⟩
end
set_option maxHeartbeats 800000 in
theorem load_any {w : World} {g : Nat} {bad : Bool} (hc : w.cell? ⟨g, 1, none⟩ = some (.int .u32 (flag bad))) :
    Calls Try.prog 62 #[.pointer (some ⟨g, 1, none⟩)] w fun e w' => e = .returned (.bool bad) ∧ w = w' := by
  have hl := run_call_load (P := Try.prog) Try.func68 (by kernel_rfl) (by kernel_rfl) (by kernel_rfl) .u32 (by kernel_rfl) hc
  have hu := Try.underlying83
  cases bad with
  | true =>
    simp only [flag] at hl hc
    go_enter Try.func62, Try.ntmps62
    go_wp2
    go_ret
    exact ⟨rfl, rfl⟩
  | false =>
    simp only [flag] at hl hc
    go_enter Try.func62, Try.ntmps62
    go_wp2
    go_ret
    exact ⟨rfl, rfl⟩
theorem b32_any (w : World) : Calls Try.prog 72 #[.bool true] w fun e w' => e = .returned (.int .u32 1) ∧ w = w' := by
  go_enter Try.func72, Try.ntmps72
  go_wp2
  go_ret
  exact ⟨rfl, rfl⟩
set_option maxHeartbeats 800000 in
theorem store_any {w : World} {g : Nat} {u : Value} (hc : w.cell? ⟨g, 1, none⟩ = some u) (hf : w.frozen? ⟨g, 1, none⟩ = false) :
    Calls Try.prog 67 #[.pointer (some ⟨g, 1, none⟩), .bool true] w fun e w' => e = .returned (.tuple #[]) ∧ ∃ k, w' = (w.setCell ⟨g, 1, none⟩ (.int .u32 1)).drewN k := by
  have hl := run_call_store (P := Try.prog) Try.func71 (by kernel_rfl) (by kernel_rfl) (by kernel_rfl) (by kernel_rfl) (k := .u32) (y := 1) hc hf
  have hl2 := run_call_store (P := Try.prog) (w := w.drew) Try.func71 (by kernel_rfl) (by kernel_rfl) (by kernel_rfl) (by kernel_rfl) (k := .u32) (y := 1) hc hf
  have hu := Try.underlying83
  go_enter Try.func67, Try.ntmps67
  go_wp2_with fail
  go_region_with (go_at_call 72; refine (b32_any _).mono ?_; rintro e w' ⟨rfl, rfl⟩)
  all_goals (go_end0; exact ⟨rfl, 1, rfl⟩)
theorem shl_or (m x : Nat) (hm : m < 72057594037927936) (hx : x < 256) : bits .or .u64 ((m : Int) * 256) (x : Int) = (m : Int) * 256 + (x : Int) :=
  bits_join .u64 64 (by decide) (fun n h0 h1 => by rw [IntKind.wrap_u64]; omega) 8 _ _ (by omega) (by omega) (by omega) (by omega) (by omega) (by omega)
theorem slice_lo {w : World} {b : Nat} {A : Option Addr} {n c : Nat} {B : List UInt8} (k : IntKind) (lo : Nat) (h : Reads w b 1 A n (B8 B)) (h2 : lo ≤ n) (hc : n ≤ c) :
    ∃ A' : Option Addr, (∀ W : World, (Instr.slice 25 (.slice A n c) (some (.int k (lo : Int))) none none).run Try.prog W = .ok (.slice A' (n - lo) (c - lo)) W) ∧ Reads w b 1 A' (n - lo) (B8 (B.drop lo)) := by
  obtain ⟨i0, hi0, hz0, hz1, hz2⟩ := info_parts info_u8
  refine ⟨if c = lo then A else A.map (·.add lo), fun W => ?_, ?_⟩
  · have hel : Try.prog.elem 25 = 5 := by simp [Program.elem, Try.underlying25]
    have hu : Try.prog.underlying 25 = some (.slice (Try.prog.elem 25)) := by rw [hel]; exact Try.underlying25
    rw [run_slice_l W 25 A n c hu k (lo : Int) (by omega) (by omega), hel]
    simp [sizeOf, typeInfo, hi0, hz1, sliced, Result.andThen]
  · have h3 := h.cut (k := lo) (cap := c) h2 hc
    rw [Nat.mul_one] at h3
    have e : (B8 B).drop lo = B8 (B.drop lo) := by unfold B8; rw [List.map_drop]
    rw [e] at h3
    exact h3
theorem slice_mid {w : World} {b : Nat} {A : Option Addr} {n c : Nat} {B : List UInt8} (kl kh : IntKind) (lo hi : Nat) (h : Reads w b 1 A n (B8 B)) (h1 : lo ≤ hi) (h2 : hi ≤ n) (hc : n ≤ c) :
    ∃ A' : Option Addr, (∀ W : World, (Instr.slice 25 (.slice A n c) (some (.int kl (lo : Int))) (some (.int kh (hi : Int))) none).run Try.prog W = .ok (.slice A' (hi - lo) (c - lo)) W) ∧ Reads w b 1 A' (hi - lo) (B8 ((B.drop lo).take (hi - lo))) := by
  obtain ⟨i0, hi0, hz0, hz1, hz2⟩ := info_parts info_u8
  obtain ⟨A', _, hr⟩ := cut_run lo hi h h1 h2 hc
  have hl := h.bytes_length
  refine ⟨if c = lo then A else A.map (·.add lo), fun W => ?_, ?_⟩
  · have hel : Try.prog.elem 25 = 5 := by simp [Program.elem, Try.underlying25]
    have hu : Try.prog.underlying 25 = some (.slice (Try.prog.elem 25)) := by rw [hel]; exact Try.underlying25
    rw [run_slice_lh W 25 A n c hu kl kh (lo : Int) (hi : Int) (by omega) (by omega) (by omega), hel]
    simp [sizeOf, typeInfo, hi0, hz1, sliced, Result.andThen]
  · have h3 := h.cut (k := lo) (cap := c) (by omega) hc
    rw [Nat.mul_one] at h3
    refine ⟨by rw [B8_length, List.length_take, List.length_drop]; omega, fun hp => ?_⟩
    obtain ⟨ad, he, hb, hcell⟩ := h3.2 (by omega)
    refine ⟨ad, he, hb, fun j u hu => hcell j u ?_⟩
    rw [← hu]
    unfold B8
    rw [List.map_take, List.map_drop, List.getElem?_take]
    have hj : j < hi - lo := by
      have := (List.getElem?_eq_some_iff.1 hu).1
      rw [B8_length, List.length_take] at this
      omega
    rw [if_pos hj]
/-- is there a number of so many bytes behind this sign, at the head -/
def headOk (B : List UInt8) (bad : Bool) (s : UInt8) (many : Nat) : Bool := !bad && (decide (many < B.length) && decide (B.getD 0 0 = s))
set_option maxRecDepth 100000 in
set_option maxHeartbeats 1600000 in
theorem head_bad {w : World} {g : Nat} {A : Option Addr} {n c : Nat} {B : List UInt8} (h : RdC w g A n c B true) (s : Int) (many : Nat) :
    Calls Try.prog 60 #[.pointer (some ⟨g, 0, none⟩), .int .u8 s, .int .i64 (many : Int)] w fun e w' => e = .returned (.tuple #[.int .u64 0, .bool false]) ∧ w = w' := by
  have hu := Try.underlying85
  have kc1 : w.cell? ⟨g, 1, none⟩ = some (.int .u32 (flag true)) := h.blk.cell 1
  have H := Lib.hid (And.intro h kc1)
  clear h kc1
  go_enter Try.func60, Try.ntmps60
  go_wp2_with fail
  refine (load_any H.out.2).mono ?_
  rintro e w1 ⟨rfl, rfl⟩
  go_wp2_with fail
  go_ret2
  exact ⟨rfl, rfl⟩
set_option maxRecDepth 100000 in
set_option maxHeartbeats 1600000 in
theorem head_short {w : World} {g : Nat} {A : Option Addr} {n c : Nat} {B : List UInt8} (h : RdC w g A n c B false) (s : Int) (many : Nat) (hn : n ≤ 140737488351232) (hm : many ≤ 8) (hs : n ≤ many) :
    Calls Try.prog 60 #[.pointer (some ⟨g, 0, none⟩), .int .u8 s, .int .i64 (many : Int)] w fun e w' => e = .returned (.tuple #[.int .u64 0, .bool false]) ∧ RdC w' g A n c B true ∧ w.grownBy w' (some g) := by
  have hu := Try.underlying85
  have kc0 : w.cell? ⟨g, 0, none⟩ = some (.slice A n c) := h.blk.cell 0
  have kc1 : w.cell? ⟨g, 1, none⟩ = some (.int .u32 (flag false)) := h.blk.cell 1
  have d1 : decide ((n : Int) ≤ (many : Int)) = true := decide_eq_true (by omega)
  have d2 : decide (n ≤ many) = true := decide_eq_true hs
  have H := Lib.hid (And.intro h (And.intro kc1 (h.blk.frozen 1)))
  clear h kc1 hs
  go_enter Try.func60, Try.ntmps60
  go_wp2_with fail
  refine (load_any H.out.2.1).mono ?_
  rintro e w1 ⟨rfl, rfl⟩
  go_wp2_with fail
  refine (store_any H.out.2.1 H.out.2.2).mono ?_
  rintro e w2 ⟨rfl, k2, hw2⟩
  have H2 := Lib.hid (show RdC w2 g A n c B true ∧ w.grownBy w2 (some g) by rw [hw2]; exact ⟨(H.out.1.setBad).drewN _, only_drewN (only_set (World.grownBy.refl w _) _ _) _⟩)
  clear hw2
  go_wp2_with fail
  go_ret2
  exact ⟨rfl, H2.out.1, H2.out.2⟩
set_option maxRecDepth 100000 in
set_option maxHeartbeats 1600000 in
theorem head_sign {w : World} {g : Nat} {A : Option Addr} {n c : Nat} {B : List UInt8} (h : RdC w g A n c B false) (s : UInt8) (many : Nat) (hn : n ≤ 140737488351232) (hm : many ≤ 8) (hs : many < n) (hx : B.getD 0 0 ≠ s) :
    Calls Try.prog 60 #[.pointer (some ⟨g, 0, none⟩), .int .u8 (s.toNat : Int), .int .i64 (many : Int)] w fun e w' => e = .returned (.tuple #[.int .u64 0, .bool false]) ∧ RdC w' g A n c B true ∧ w.grownBy w' (some g) := by
  have hu := Try.underlying85
  have kc0 : w.cell? ⟨g, 0, none⟩ = some (.slice A n c) := h.blk.cell 0
  have kc1 : w.cell? ⟨g, 1, none⟩ = some (.int .u32 (flag false)) := h.blk.cell 1
  have d1 : decide ((n : Int) ≤ (many : Int)) = false := decide_eq_false (by omega)
  have d2 : decide (n ≤ many) = false := decide_eq_false (by omega)
  obtain ⟨ad, rfl, kx⟩ := reads_cell h.rd (show 0 < n by omega)
  obtain ⟨x, hxe⟩ : ∃ x, x = B.getD 0 0 := ⟨_, rfl⟩
  rw [← hxe] at kx hx
  rw [show ad.add 0 = ad from by unfold Addr.add; simp] at kx
  have hne : ((x.toNat : Int) != (s.toNat : Int)) = true := by simpa using u8_ne hx
  have i1 : 0 < n := by omega
  have H := Lib.hid (And.intro h (And.intro kc1 (h.blk.frozen 1)))
  clear h kc1 hs hx hxe
  go_enter Try.func60, Try.ntmps60
  go_wp2_with fail
  refine (load_any H.out.2.1).mono ?_
  rintro e w1 ⟨rfl, rfl⟩
  go_wp2_with fail
  refine (store_any H.out.2.1 H.out.2.2).mono ?_
  rintro e w2 ⟨rfl, k2, hw2⟩
  have H2 := Lib.hid (show RdC w2 g _ n c B true ∧ w.grownBy w2 (some g) by rw [hw2]; exact ⟨(H.out.1.setBad).drewN _, only_drewN (only_set (World.grownBy.refl w _) _ _) _⟩)
  clear hw2
  go_wp2_with fail
  go_ret2
  exact ⟨rfl, H2.out.1, H2.out.2⟩
theorem num_next {l : List UInt8} {k : Nat} (h : k < l.length) : Cn.num (l.take (k + 1)) = Cn.num (l.take k) * 256 + (l.getD k 0).toNat := by
  rw [List.take_succ_eq_append_getElem h, Cn.num_snoc, List.getD_eq_getElem?_getD, List.getElem?_eq_getElem h]
  rfl
set_option maxRecDepth 100000 in
set_option maxHeartbeats 1600000 in
theorem head_some {w : World} {g : Nat} {A : Option Addr} {n c : Nat} {B : List UInt8} (h : RdC w g A n c B false) (s : UInt8) (many : Nat) (hn : n ≤ 140737488351232) (hm : many ≤ 8) (hs : many < n) (hx : B.getD 0 0 = s) :
    Calls Try.prog 60 #[.pointer (some ⟨g, 0, none⟩), .int .u8 (s.toNat : Int), .int .i64 (many : Int)] w fun e w' => e = .returned (.tuple #[.int .u64 (Cn.num ((B.drop 1).take many) : Int), .bool true]) ∧ Dr w w' := by
  have hu := Try.underlying85
  have kc0 : w.cell? ⟨g, 0, none⟩ = some (.slice A n c) := h.blk.cell 0
  have kc1 : w.cell? ⟨g, 1, none⟩ = some (.int .u32 (flag false)) := h.blk.cell 1
  have d1 : decide ((n : Int) ≤ (many : Int)) = false := decide_eq_false (by omega)
  have d2 : decide (n ≤ many) = false := decide_eq_false (by omega)
  obtain ⟨A2, hrun, hrd⟩ := slice_mid .i64 .i64 1 (1 + many) h.rd (by omega) (by omega) h.cap
  rw [show ((1 : Nat) : Int) = 1 from rfl, show ((1 + many : Nat) : Int) = 1 + (many : Int) by omega, show 1 + many - 1 = many by omega] at hrun
  rw [show 1 + many - 1 = many by omega] at hrd
  obtain ⟨ad, rfl, kx⟩ := reads_cell h.rd (show 0 < n by omega)
  rw [hx, show ad.add 0 = ad from by unfold Addr.add; simp] at kx
  have hne : ((s.toNat : Int) != (s.toNat : Int)) = false := by simp
  have i1 : 0 < n := by omega
  have q1 : IntKind.i64.wrap (1 + (many : Int)) = 1 + (many : Int) := IntWalk.i64_in _ (by omega)
  have H := Lib.hid (And.intro h (And.intro kc1 hrd))
  have hmn := hm
  clear h kc1 hs hx hrd
  go_enter Try.func60, Try.ntmps60
  go_wp2_with fail
  refine (load_any H.out.2.1).mono ?_
  rintro e w1 ⟨rfl, rfl⟩
  go_wp2_with fail
  clear kc0 kx hne q1
  go_loopw [8, 10, 48] (fun v _ i wr => ∃ k : Nat, k ≤ many ∧ v = .int .u64 (Cn.num (((B.drop 1).take many).take k) : Int) ∧ i = .int .i64 (k : Int) ∧ Dr w wr) (fun _ _ i _ => (many + 1 - intOf i).toNat)
  case atStart => exact ⟨0, by omega, by simp [Cn.num], by simp, Dr.refl w⟩
  case round =>
    obtain ⟨k, hk, rfl, rfl, hd⟩ := hrel
    have HD := Lib.hid hd
    clear hd
    by_cases hkm : k < many
    · obtain ⟨kd, hkd⟩ := HD.out
      have h' : Reads wr g 1 A2 many (B8 ((B.drop 1).take many)) := by rw [hkd]; exact H.out.2.2
      clear hkd
      obtain ⟨ad', he, kx⟩ := reads_cell h' (show k < many from hkm)
      subst he
      have hl : ((B.drop 1).take many).length = many := h'.bytes_length
      have hst := num_next (l := (B.drop 1).take many) (k := k) (by omega)
      have hsm := num_small ((B.drop 1).take many) (show k < 8 by omega)
      have hsn := Cn.num_lt (((B.drop 1).take many).take k)
      obtain ⟨x, hx⟩ : ∃ x, x = ((B.drop 1).take many).getD k 0 := ⟨_, rfl⟩
      rw [← hx] at hst kx
      obtain ⟨m, hmm⟩ : ∃ m, m = Cn.num (((B.drop 1).take many).take k) := ⟨_, rfl⟩
      rw [← hmm] at hst hsm hsn ⊢
      have hsn2 : m < 72057594037927936 := by omega
      have HS := Lib.hid hst
      have hxl := x.toNat_lt
      have i0 : (k : Int) < (many : Int) := by omega
      have d0 : decide ((k : Int) < (many : Int)) = true := decide_eq_true i0
      have q1 : IntKind.i64.wrap ((k : Int) + 1) = (k : Int) + 1 := IntWalk.i64_in _ (by omega)
      have q2 : IntKind.u64.wrap ((m : Int) * 256) = (m : Int) * 256 := by rw [IntKind.wrap_u64]; omega
      have q4 : IntKind.u64.wrap (x.toNat : Int) = (x.toNat : Int) := by rw [IntKind.wrap_u64]; omega
      have q5 := shl_or m x.toNat hsn2 hxl
      clear hst hmm hx hsn
      go_wp2_with fail
      clear q1 q2 q4 q5 i0 d0
      go_roundw
      case rel => exact ⟨k + 1, by omega, by rw [HS.out]; go_num, by go_num, HD.out⟩
      case measure => simp [intOf]; omega
    · obtain rfl : k = many := by omega
      have d0 : decide ((k : Int) < (k : Int)) = false := decide_eq_false (by omega)
      go_wp2_with fail
      go_ret2
      exact ⟨by rw [List.take_take, Nat.min_self]; rfl, HD.out⟩
theorem head_yes {w : World} {g : Nat} {A : Option Addr} {n c : Nat} {B : List UInt8} {bad : Bool} (h : RdC w g A n c B bad) (s : UInt8) (many : Nat) (hn : n ≤ 140737488351232) (hm : many ≤ 8) (ho : headOk B bad s many = true) :
    Calls Try.prog 60 #[.pointer (some ⟨g, 0, none⟩), .int .u8 (s.toNat : Int), .int .i64 (many : Int)] w fun e w' => e = .returned (.tuple #[.int .u64 (Cn.num ((B.drop 1).take many) : Int), .bool true]) ∧ RdC w' g A n c B bad ∧ w.grownBy w' (some g) := by
  have hl := h.len
  unfold headOk at ho
  rw [Bool.and_eq_true, Bool.and_eq_true, decide_eq_true_eq, decide_eq_true_eq] at ho
  cases bad with
  | true => simp at ho
  | false => exact (head_some h s many hn hm (by omega) ho.2.2).mono fun e w' hh => ⟨hh.1, by obtain ⟨k, hk⟩ := hh.2; rw [hk]; exact h.drewN k, dr_grown hh.2 _⟩
theorem head_no {w : World} {g : Nat} {A : Option Addr} {n c : Nat} {B : List UInt8} {bad : Bool} (h : RdC w g A n c B bad) (s : UInt8) (many : Nat) (hn : n ≤ 140737488351232) (hm : many ≤ 8) (ho : headOk B bad s many = false) :
    Calls Try.prog 60 #[.pointer (some ⟨g, 0, none⟩), .int .u8 (s.toNat : Int), .int .i64 (many : Int)] w fun e w' => e = .returned (.tuple #[.int .u64 0, .bool false]) ∧ RdC w' g A n c B true ∧ w.grownBy w' (some g) := by
  have hl := h.len
  cases bad with
  | true => exact (head_bad h _ many).mono fun e w' hh => by obtain ⟨e1, e2⟩ := hh; subst e2; exact ⟨e1, h, World.grownBy.refl _ _⟩
  | false =>
    by_cases h1 : many < n
    · refine head_sign h s many hn hm h1 fun e => ?_
      unfold headOk at ho
      rw [hl, decide_eq_true h1, decide_eq_true e] at ho
      cases ho
    · exact head_short h _ many hn hm (by omega)
/-- what Uint reads: the number, what is left, is the reader bad -/
def uC (B : List UInt8) (bad : Bool) : Nat × List UInt8 × Bool := if headOk B bad 117 8 = true then (Cn.num ((B.drop 1).take 8), B.drop 9, bad) else (0, B, true)
/-- what some reads: the bytes, what is left, is the reader bad -/
def sC (s : UInt8) (B : List UInt8) (bad : Bool) : List UInt8 × List UInt8 × Bool :=
  if headOk B bad s 4 = true then (if Cn.num ((B.drop 1).take 4) ≤ B.length - 5 then ((B.drop 5).take (Cn.num ((B.drop 1).take 4)), B.drop (5 + Cn.num ((B.drop 1).take 4)), bad) else ([], B, true)) else ([], B, true)
/-- the reader goes on with what is left -/
def Goes (w : World) (g : Nat) (n : Nat) (o : List UInt8 × Bool) (w' : World) : Prop := ∃ A' n' c', n' ≤ n ∧ RdC w' g A' n' c' o.1 o.2 ∧ w.grownBy w' (some g)
set_option maxRecDepth 100000 in
set_option maxHeartbeats 1600000 in
theorem uintC_any {w : World} {g : Nat} {A : Option Addr} {n c : Nat} {B : List UInt8} {bad : Bool} (h : RdC w g A n c B bad) (hn : n ≤ 140737488351232) :
    Calls Try.prog 43 #[.pointer (some ⟨g, 0, none⟩)] w fun e w' => e = .returned (.int .u64 ((uC B bad).1 : Int)) ∧ Goes w g n (uC B bad).2 w' := by
  have hu := Try.underlying85
  have hl := h.len
  unfold uC
  by_cases ho : headOk B bad 117 8 = true
  · rw [if_pos ho]
    have h9 : 9 ≤ n := by
      unfold headOk at ho
      rw [Bool.and_eq_true, Bool.and_eq_true, decide_eq_true_eq] at ho
      omega
    obtain ⟨m, hm⟩ : ∃ m, m = Cn.num ((B.drop 1).take 8) := ⟨_, rfl⟩
    rw [← hm]
    have HO := Lib.hid (And.intro ho hm)
    have H := Lib.hid h
    clear ho h hl hm
    go_enter Try.func43, Try.ntmps43
    go_wp2_with fail
    refine (head_yes H.out 117 8 hn (by omega) HO.out.1).mono ?_
    rw [← HO.out.2]
    rintro e w1 ⟨rfl, h1, hg1⟩
    have kc0 : w1.cell? ⟨g, 0, none⟩ = some (.slice A n c) := h1.blk.cell 0
    have kf0 := h1.blk.frozen 0
    obtain ⟨A2, hrun, hrd⟩ := slice_lo .i64 9 h1.rd h9 h1.cap
    rw [show ((9 : Nat) : Int) = 9 from rfl] at hrun
    have H1 := Lib.hid (And.intro h1 (And.intro hg1 hrd))
    clear h1 hg1 hrd
    go_wp2_with fail
    go_ret
    have hc := H1.out.1.cap
    exact ⟨rfl, A2, n - 9, c - 9, by omega, H1.out.1.setRest H1.out.2.2 (by omega), only_set H1.out.2.1 _ _⟩
  · have ho' : headOk B bad 117 8 = false := by simpa using ho
    rw [if_neg ho]
    have HO := Lib.hid ho'
    have H := Lib.hid h
    clear ho ho' h hl
    go_enter Try.func43, Try.ntmps43
    go_wp2_with fail
    refine (head_no H.out 117 8 hn (by omega) HO.out).mono ?_
    rintro e w1 ⟨rfl, h1, hg1⟩
    have H1 := Lib.hid (And.intro h1 hg1)
    clear h1 hg1
    go_wp2_with fail
    go_ret
    exact ⟨rfl, A, n, c, Nat.le_refl _, H1.out.1, H1.out.2⟩
/-- bytes that a reader hands back: new, and apart from the reader -/
def RetC (w : World) (g : Nat) (n : Nat) (o : List UInt8 × List UInt8 × Bool) (e : Ending) (w' : World) : Prop :=
  ∃ A' n' c', e = .returned (.slice A' n' c') ∧ w'.ownsRow w.heap.size 5 1 (.slice A' n' c') n' (B8 o.1) ∧ Goes w g n o.2 w'
set_option maxRecDepth 100000 in
set_option maxHeartbeats 1600000 in
theorem someC_no {w : World} {g : Nat} {A : Option Addr} {n c : Nat} {B : List UInt8} {bad : Bool} (h : RdC w g A n c B bad) (s : UInt8) (hn : n ≤ 140737488351232) (ho : headOk B bad s 4 = false) :
    Calls Try.prog 61 #[.pointer (some ⟨g, 0, none⟩), .int .u8 (s.toNat : Int)] w (RetC w g n ([], B, true)) := by
  have hu := Try.underlying85
  have HO := Lib.hid ho
  have H := Lib.hid h
  clear ho h
  go_enter Try.func61, Try.ntmps61
  go_wp2_with fail
  refine (head_no H.out s 4 hn (by omega) HO.out).mono ?_
  rintro e w1 ⟨rfl, h1, hg1⟩
  have H1 := Lib.hid (And.intro h1 hg1)
  clear h1 hg1
  go_wp2_with fail
  go_ret
  exact ⟨none, 0, 0, rfl, nil_row _ _, A, n, c, Nat.le_refl _, H1.out.1, H1.out.2⟩
theorem reads_up {w : World} {b b' : Nat} {A : Option Addr} {n : Nat} {xs : List Value} (h : Reads w b 1 A n xs) (hb : b ≤ b') : Reads w b' 1 A n xs :=
  ⟨h.1, fun hp => by obtain ⟨ad, e, hl, hc⟩ := h.2 hp; exact ⟨ad, e, Nat.lt_of_lt_of_le hl hb, hc⟩⟩
theorem num4_lt (B : List UInt8) (k : Nat) : Cn.num ((B.drop k).take 4) < 4294967296 := by
  have h1 := Cn.num_lt ((B.drop k).take 4)
  have h2 : 256 ^ ((B.drop k).take 4).length ≤ 256 ^ 4 := Nat.pow_le_pow_right (by omega) (by rw [List.length_take]; omega)
  have h3 : (256 : Nat) ^ 4 = 4294967296 := by decide
  omega
theorem headOk_len {B : List UInt8} {bad : Bool} {s : UInt8} {k : Nat} (h : headOk B bad s k = true) : k + 1 ≤ B.length := by
  unfold headOk at h
  rw [Bool.and_eq_true, Bool.and_eq_true, decide_eq_true_eq] at h
  omega
set_option maxRecDepth 100000 in
set_option maxHeartbeats 1600000 in
theorem someC_long {w : World} {g : Nat} {A : Option Addr} {n c : Nat} {B : List UInt8} {bad : Bool} (h : RdC w g A n c B bad) (s : UInt8) (hn : n ≤ 140737488351232) (ho : headOk B bad s 4 = true) {N : Nat} (hN : N = Cn.num ((B.drop 1).take 4)) (hgt : n < 5 + N) :
    Calls Try.prog 61 #[.pointer (some ⟨g, 0, none⟩), .int .u8 (s.toNat : Int)] w (RetC w g n ([], B, true)) := by
  have hu := Try.underlying85
  have hl := h.len
  have h5 := headOk_len ho
  have hN1 : N < 4294967296 := by have := num4_lt B 1; omega
  have q1 : IntKind.i64.wrap ((n : Int) - 5) = (n : Int) - 5 := IntWalk.i64_in _ (by omega)
  have q3 : IntKind.u64.wrap ((n : Int) - 5) = (n : Int) - 5 := by rw [IntKind.wrap_u64]; omega
  have d1 : decide ((N : Int) > (n : Int) - 5) = true := decide_eq_true (by omega)
  have d3 : (n : Int) - 5 < (N : Int) := by omega
  have d2 : decide ((n : Int) - 5 < (N : Int)) = true := decide_eq_true (by omega)
  have HO := Lib.hid (And.intro ho hN)
  have H := Lib.hid (And.intro h hl)
  clear ho h hl hN h5
  go_enter Try.func61, Try.ntmps61
  go_wp2_with fail
  refine (head_yes H.out.1 s 4 hn (by omega) HO.out.1).mono ?_
  rw [← HO.out.2]
  rintro e w1 ⟨rfl, h1, hg1⟩
  have kc0 : w1.cell? ⟨g, 0, none⟩ = some (.slice A n c) := h1.blk.cell 0
  have H1 := Lib.hid (And.intro h1 (And.intro hg1 (And.intro (show w1.cell? ⟨g, 1, none⟩ = _ from h1.blk.cell 1) (h1.blk.frozen 1))))
  clear h1 hg1
  go_wp2_with fail
  refine (store_any H1.out.2.2.1 H1.out.2.2.2).mono ?_
  rintro e w2 ⟨rfl, k2, hw2⟩
  have H2 := Lib.hid (show RdC w2 g A n c B true ∧ w.grownBy w2 (some g) by rw [hw2]; exact ⟨(H1.out.1.setBad).drewN _, only_drewN (only_set H1.out.2.1 _ _) _⟩)
  clear hw2
  go_wp2_with fail
  go_ret
  exact ⟨none, 0, 0, rfl, nil_row _ _, A, n, c, Nat.le_refl _, H2.out.1, H2.out.2⟩
set_option maxRecDepth 100000 in
set_option maxHeartbeats 1600000 in
theorem someC_fit {w : World} {g : Nat} {A : Option Addr} {n c : Nat} {B : List UInt8} {bad : Bool} (h : RdC w g A n c B bad) (s : UInt8) (hn : n ≤ 140737488351232) (ho : headOk B bad s 4 = true) {N : Nat} (hN : N = Cn.num ((B.drop 1).take 4)) (hgt : 5 + N ≤ n) :
    Calls Try.prog 61 #[.pointer (some ⟨g, 0, none⟩), .int .u8 (s.toNat : Int)] w (RetC w g n ((B.drop 5).take N, B.drop (5 + N), bad)) := by
  have hu := Try.underlying85
  have hl := h.len
  have h5 := headOk_len ho
  have hN1 : N < 4294967296 := by have := num4_lt B 1; omega
  have q1 : IntKind.i64.wrap ((n : Int) - 5) = (n : Int) - 5 := IntWalk.i64_in _ (by omega)
  have q3 : IntKind.u64.wrap ((n : Int) - 5) = (n : Int) - 5 := by rw [IntKind.wrap_u64]; omega
  have q4 : IntKind.u64.wrap (5 + (N : Int)) = 5 + (N : Int) := by rw [IntKind.wrap_u64]; omega
  have d1 : decide ((N : Int) > (n : Int) - 5) = false := decide_eq_false (by omega)
  have d3 : ¬ ((n : Int) - 5 < (N : Int)) := by omega
  have d2 : decide ((n : Int) - 5 < (N : Int)) = false := decide_eq_false (by omega)
  have HO := Lib.hid (And.intro ho hN)
  have H := Lib.hid (And.intro h hl)
  clear ho h hl hN h5
  go_enter Try.func61, Try.ntmps61
  go_wp2_with fail
  refine (head_yes H.out.1 s 4 hn (by omega) HO.out.1).mono ?_
  rw [← HO.out.2]
  rintro e w1 ⟨rfl, h1, hg1⟩
  have kc0 : w1.cell? ⟨g, 0, none⟩ = some (.slice A n c) := h1.blk.cell 0
  obtain ⟨A2, hrun, hrd⟩ := slice_mid .i64 .u64 5 (5 + N) h1.rd (by omega) hgt h1.cap
  rw [show ((5 : Nat) : Int) = 5 from rfl, show ((5 + N : Nat) : Int) = 5 + (N : Int) by omega, show 5 + N - 5 = N by omega] at hrun
  rw [show 5 + N - 5 = N by omega] at hrd
  have H1 := Lib.hid (And.intro h1 (And.intro hg1 hrd))
  clear h1 hg1 hrd
  go_wp2_with fail
  clear kc0
  refine (clone_any A2 N (c - 5) ((B.drop 5).take N) w1 (reads_up H1.out.2.2 (Nat.le_of_lt H1.out.1.lt)) (by rw [List.length_take]; omega)).mono ?_
  rintro e w2 ⟨A3, n3, c3, rfl, hown, hb2⟩
  have h2 := H1.out.1.below hb2
  have hg2 : w.grownBy w2 (some g) := only_then H1.out.2.1 (only_of_below hb2 none) (by simp)
  have hown2 := own_base_le hown H1.out.2.1.size
  have kc0 : w2.cell? ⟨g, 0, none⟩ = some (.slice A n c) := h2.blk.cell 0
  have kf0 := h2.blk.frozen 0
  obtain ⟨A4, hrun4, hrd4⟩ := slice_lo .u64 (5 + N) h2.rd hgt h2.cap
  rw [show ((5 + N : Nat) : Int) = 5 + (N : Int) by omega] at hrun4
  have H2 := Lib.hid (And.intro h2 (And.intro hg2 (And.intro hown2 hrd4)))
  clear hown hb2 h2 hg2 hown2 hrd4
  go_wp2_with fail
  go_ret
  have hc := H2.out.1.cap
  exact ⟨A3, n3, c3, rfl, own_far H2.out.2.2.1 (by
    intro e
    exact absurd e (own_blk_ne H2.out.2.2.1 H2.out.1.blk (by decide))), A4, n - (5 + N), c - (5 + N), by omega, H2.out.1.setRest H2.out.2.2.2 (by omega), only_set H2.out.2.1 _ _⟩
theorem someC_any {w : World} {g : Nat} {A : Option Addr} {n c : Nat} {B : List UInt8} {bad : Bool} (h : RdC w g A n c B bad) (s : UInt8) (hn : n ≤ 140737488351232) :
    Calls Try.prog 61 #[.pointer (some ⟨g, 0, none⟩), .int .u8 (s.toNat : Int)] w (RetC w g n (sC s B bad)) := by
  have hl := h.len
  unfold sC
  by_cases ho : headOk B bad s 4 = true
  · rw [if_pos ho]
    have h5 := headOk_len ho
    by_cases hg : Cn.num ((B.drop 1).take 4) ≤ B.length - 5
    · rw [if_pos hg]
      exact someC_fit h s hn ho rfl (by omega)
    · rw [if_neg hg]
      exact someC_long h s hn ho rfl (by omega)
  · rw [if_neg ho]
    exact someC_no h s hn (by simpa using ho)
set_option maxHeartbeats 800000 in
theorem bytesC_any {w : World} {g : Nat} {A : Option Addr} {n c : Nat} {B : List UInt8} {bad : Bool} (h : RdC w g A n c B bad) (hn : n ≤ 140737488351232) :
    Calls Try.prog 45 #[.pointer (some ⟨g, 0, none⟩)] w (RetC w g n (sC 98 B bad)) := by
  have H := Lib.hid h
  clear h
  go_enter Try.func45, Try.ntmps45
  go_wp2_with fail
  refine (someC_any H.out 98 hn).mono ?_
  rintro e w1 ⟨A1, n1, c1, rfl, h1⟩
  have H1 := Lib.hid h1
  clear h1
  go_wp2_with fail
  go_ret
  exact ⟨A1, n1, c1, rfl, H1.out⟩
/-- a text that a reader hands back -/
def RetCT (w : World) (g : Nat) (n : Nat) (o : List UInt8 × List UInt8 × Bool) (e : Ending) (w' : World) : Prop := e = .returned (.string ⟨o.1.toArray⟩) ∧ Goes w g n o.2 w'
set_option maxHeartbeats 800000 in
theorem textC_any {w : World} {g : Nat} {A : Option Addr} {n c : Nat} {B : List UInt8} {bad : Bool} (h : RdC w g A n c B bad) (hn : n ≤ 140737488351232) :
    Calls Try.prog 44 #[.pointer (some ⟨g, 0, none⟩)] w (RetCT w g n (sC 115 B bad)) := by
  have H := Lib.hid h
  clear h
  go_enter Try.func44, Try.ntmps44
  go_wp2_with fail
  refine (someC_any H.out 115 hn).mono ?_
  rintro e w1 ⟨A1, n1, c1, rfl, ho1, h1⟩
  have H1 := Lib.hid h1
  have ht := run_text_bytes (c := c1) (Reads.of_own ho1)
  clear h1 ho1
  go_wp2_with fail
  go_ret
  exact ⟨rfl, H1.out⟩
/-- what Done answers -/
def dC (B : List UInt8) (bad : Bool) : Int := if bad || decide (0 < B.length) then 4 else 0
set_option maxRecDepth 100000 in
set_option maxHeartbeats 1600000 in
theorem doneC_any {w : World} {g : Nat} {A : Option Addr} {n c : Nat} {B : List UInt8} {bad : Bool} (h : RdC w g A n c B bad) :
    Calls Try.prog 46 #[.pointer (some ⟨g, 0, none⟩)] w fun e w' => e = .returned (.int .i64 (dC B bad)) ∧ w' = w := by
  have hu := Try.underlying85
  have hl := h.len
  have kc0 : w.cell? ⟨g, 0, none⟩ = some (.slice A n c) := h.blk.cell 0
  have H := Lib.hid (show w.cell? ⟨g, 1, none⟩ = some (.int .u32 (flag bad)) from h.blk.cell 1)
  unfold dC
  rw [hl]
  clear h hl
  cases bad with
  | true =>
    simp only [Bool.true_or, if_true]
    go_enter Try.func46, Try.ntmps46
    go_wp2_with fail
    refine (load_any H.out).mono ?_
    rintro e w1 ⟨rfl, rfl⟩
    go_wp2_with fail
    go_ret
    exact ⟨rfl, rfl⟩
  | false =>
    by_cases h0 : 0 < n
    · rw [show (false || decide (0 < n)) = true by simp [h0], if_pos rfl]
      have d1 : decide ((0 : Int) < (n : Int)) = true := decide_eq_true (by omega)
      go_enter Try.func46, Try.ntmps46
      go_wp2_with fail
      refine (load_any H.out).mono ?_
      rintro e w1 ⟨rfl, rfl⟩
      go_wp2_with fail
      go_ret
      exact ⟨rfl, rfl⟩
    · rw [show (false || decide (0 < n)) = false by simp [h0], if_neg (by simp)]
      have d1 : decide ((0 : Int) < (n : Int)) = false := decide_eq_false (by omega)
      go_enter Try.func46, Try.ntmps46
      go_wp2_with fail
      refine (load_any H.out).mono ?_
      rintro e w1 ⟨rfl, rfl⟩
      go_wp2_with fail
      go_ret
      exact ⟨rfl, rfl⟩
set_option maxRecDepth 100000 in
set_option maxHeartbeats 1600000 in
/-- a new canon reader -/
theorem newC_any {w : World} {A : Option Addr} {n c : Nat} {B : List UInt8} (h : Reads w w.heap.size 1 A n (B8 B)) (hn : n ≤ 140737488351232) :
    Calls Try.prog 42 #[.slice A n c] w fun e w' => ∃ g A' c', e = .returned (.pointer (some ⟨g, 0, none⟩)) ∧ w.heap.size ≤ g ∧ RdC w' g A' n c' B false ∧ Below w.heap.size w w' := by
  have hl := h.bytes_length
  have H := Lib.hid h
  clear h
  go_enter Try.func42, Try.ntmps42
  go_wp2_with fail
  refine (clone_any A n c B w H.out (by omega)).mono ?_
  rintro e w1 ⟨A3, n3, c3, rfl, hown, hb⟩
  go_wp2_with fail
  go_ret
  have hr := Reads.of_own hown
  have hn3 : n3 = n := by have := hr.bytes_length; omega
  subst hn3
  exact ⟨w1.heap.size, A3, c3, rfl, hb.size, ⟨Blk.new w1 _ _, hr.alloc (Nat.le_refl _) _, own_cap hown⟩, hb.alloc hb.size _⟩
end Go.Proofs.Ytjnakhgpenafdaa
