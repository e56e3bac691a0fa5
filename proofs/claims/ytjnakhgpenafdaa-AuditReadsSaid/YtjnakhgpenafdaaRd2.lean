/- steleref02's Reader: what each method reads, and where it then stands. -/
import Derived.Test.YtjnakhgpenafdaaGA
import Derived.Test.YtjnakhgpenafdaaGS
import Derived.Test.YtjnakhgpenafdaaGR
import Derived.IntWalk
import Derived.Deep.RegionHeld3
import Derived.BigQuiet
namespace Go.Proofs.Ytjnakhgpenafdaa
open Go.RowKit
set_option linter.unusedVariables false
set_option linter.unusedSimpArgs false
namespace Cn
/-- a number out of bytes, the highest first -/
def num (l : List UInt8) : Nat := l.foldl (fun n b => n * 256 + b.toNat) 0
theorem num_snoc (l : List UInt8) (b : UInt8) : num (l ++ [b]) = num l * 256 + b.toNat := by simp [num, List.foldl_append]
theorem num_from : ∀ (l : List UInt8) (a : Nat), l.foldl (fun n b => n * 256 + b.toNat) a < (a + 1) * 256 ^ l.length
  | [], a => by simp
  | b :: l, a => by
    have ih := num_from l (a * 256 + b.toNat)
    have hb := b.toNat_lt
    rw [List.foldl_cons, List.length_cons, Nat.pow_succ]
    refine Nat.lt_of_lt_of_le ih ?_
    rw [Nat.mul_comm (256 ^ l.length) 256, ← Nat.mul_assoc]
    exact Nat.mul_le_mul_right _ (by omega)
theorem num_lt (l : List UInt8) : num l < 256 ^ l.length := by have := num_from l 0; simpa [num] using this
/-- the number behind a sign, if there is one -/
def head (sign : UInt8) (many : Nat) (l : List UInt8) : Option Nat := if many < l.length ∧ l.getD 0 0 = sign then some (num ((l.drop 1).take many)) else none
end Cn
structure RdS (b0 : Nat) (w : World) (g : Nat) (A : Option Addr) (n c : Nat) (B : List UInt8) (p : Nat) (bad : Bool) : Prop where
  blk : Blk w g 68 #[.slice A n c, .int .i64 (p : Int), .bool bad]
  rd : Reads w b0 1 A n (B8 B)
  ge : b0 ≤ g
  cap : n ≤ c
  le : p ≤ n
section
variable {b0 : Nat} {w w' : World} {g : Nat} {A : Option Addr} {n c : Nat} {B : List UInt8} {p : Nat} {bad : Bool}
theorem RdS.len (h : RdS b0 w g A n c B p bad) : B.length = n := h.rd.bytes_length
theorem RdS.lt (h : RdS b0 w g A n c B p bad) : g < w.heap.size := h.blk.lt
theorem RdS.grown (h : RdS b0 w g A n c B p bad) {row : Option Nat} (hg : w.grownBy w' row) (hne : some g ≠ row) (hr : ∀ k, row = some k → b0 ≤ k) : RdS b0 w' g A n c B p bad :=
  ⟨h.blk.grown hg hne, h.rd.grown hg (Nat.le_trans h.ge (Nat.le_of_lt h.lt)) hr, h.ge, h.cap, h.le⟩
theorem RdS.drewN (h : RdS b0 w g A n c B p bad) (k : Nat) : RdS b0 (w.drewN k) g A n c B p bad := ⟨h.blk, h.rd, h.ge, h.cap, h.le⟩
theorem RdS.dr (h : RdS b0 w g A n c B p bad) (hd : Dr w w') : RdS b0 w' g A n c B p bad := by obtain ⟨k, rfl⟩ := hd; exact h.drewN k
theorem RdS.alloc (h : RdS b0 w g A n c B p bad) (o : Obj) : RdS b0 (w.alloc o) g A n c B p bad := h.grown (World.grownBy_alloc w o none) (by simp) (by simp)
theorem RdS.far (h : RdS b0 w g A n c B p bad) {q : Addr} (hq : g ≠ q.block) (hb : b0 ≤ q.block) (u : Value) : RdS b0 (w.setCell q u) g A n c B p bad := ⟨h.blk.far hq u, h.rd.setCell hb u, h.ge, h.cap, h.le⟩
theorem RdS.setBad (h : RdS b0 w g A n c B p bad) : RdS b0 (w.setCell ⟨g, 2, none⟩ (.bool true)) g A n c B p true := ⟨h.blk.set_ 2 _, h.rd.setCell h.ge _, h.ge, h.cap, h.le⟩
theorem RdS.setAt (h : RdS b0 w g A n c B p bad) {q : Nat} (hq : q ≤ n) : RdS b0 (w.setCell ⟨g, 1, none⟩ (.int .i64 (q : Int))) g A n c B q bad := ⟨h.blk.set_ 1 _, h.rd.setCell h.ge _, h.ge, h.cap, hq⟩
end
theorem only_set {w : World} {w1 : World} {g : Nat} (h : w.grownBy w1 (some g)) (i : Nat) (u : Value) : w.grownBy (w1.setCell ⟨g, i, none⟩ u) (some g) := only_setCell h (.inl rfl) u
theorem dr_grown {w w' : World} (h : Dr w w') (row : Option Nat) : w.grownBy w' row := by obtain ⟨k, rfl⟩ := h; exact only_drewN (World.grownBy.refl w row) k

theorem grown_cell {w w' : World} {row : Option Nat} (h : w.grownBy w' row) {q : Addr} {v : Value} (hc : w.cell? q = some v) (hne : some q.block ≠ row) : w'.cell? q = some v :=
  (World.cell?_of_block (h.block q.block (World.block_lt_of_cell? w q hc) hne)).trans hc
theorem only_then {a w w' : World} {g : Nat} {row : Option Nat} (h : a.grownBy w (some g)) (k : w.grownBy w' row) (hr : ∀ j, row = some j → j = g ∨ a.heap.size ≤ j) : a.grownBy w' (some g) :=
  ⟨k.os.trans h.os, k.tape.trans h.tape, k.output.trans h.output, Nat.le_trans h.size k.size, fun i hi hne => (k.block i (Nat.lt_of_lt_of_le hi h.size) (fun e => (hr i e.symm).elim (fun e2 => hne (by rw [e2])) (fun e2 => by omega))).trans (h.block i hi hne)⟩
theorem own_far {w : World} {base n : Nat} {e : TypeId} {v : Value} {xs : List Value} (h : w.ownsRow base e 1 v n xs) {q : Addr} {u : Value} (hne : v.ownBlock ≠ some q.block) : (w.setCell q u).ownsRow base e 1 v n xs := by
  refine ⟨h.1, ?_⟩
  rcases h.2 with h2 | ⟨g', cap, cur, rfl, hg, hh, r⟩
  · exact .inl h2
  · refine .inr ⟨g', cap, cur, rfl, hg, ?_, r⟩
    exact (Below.heap_setCell w q u g' (fun e => hne (by simp [Value.ownBlock, e]))).trans hh
set_option maxRecDepth 100000 in
set_option maxHeartbeats 1600000 in
theorem rnumber_bad {b0 : Nat} {w : World} {g : Nat} {A : Option Addr} {n c : Nat} {B : List UInt8} {p : Nat} (h : RdS b0 w g A n c B p true) (s : Int) (many : Nat) :
    Calls Try.prog 63 #[.pointer (some ⟨g, 0, none⟩), .int .u8 s, .int .i64 (many : Int)] w fun e w' => e = .returned (.tuple #[.int .u64 0, .bool false]) ∧ RdS b0 w' g A n c B p true ∧ w.grownBy w' (some g) := by
  have hu := Try.underlying68
  have kc2 : w.cell? ⟨g, 2, none⟩ = some (.bool true) := h.blk.cell 2
  have kf2 := h.blk.frozen 2
  have H := Lib.hid h
  clear h
  go_enter Try.func63, Try.ntmps63
  go_wp2_with fail
  go_quiet (fail)
  go_wp2_with fail
  go_ret2
  exact ⟨rfl, (H.out.drewN _).setBad, only_set (only_drewN (World.grownBy.refl w _) _) _ _⟩
set_option maxRecDepth 100000 in
set_option maxHeartbeats 1600000 in
theorem rnumber_short {b0 : Nat} {w : World} {g : Nat} {A : Option Addr} {n c : Nat} {B : List UInt8} {p : Nat} (h : RdS b0 w g A n c B p false) (s : Int) (many : Nat) (hn : n ≤ 140737488351232) (hm : many ≤ 8) (hs : n - p < many + 1) :
    Calls Try.prog 63 #[.pointer (some ⟨g, 0, none⟩), .int .u8 s, .int .i64 (many : Int)] w fun e w' => e = .returned (.tuple #[.int .u64 0, .bool false]) ∧ RdS b0 w' g A n c B p true ∧ w.grownBy w' (some g) := by
  have hu := Try.underlying68
  have kc0 : w.cell? ⟨g, 0, none⟩ = some (.slice A n c) := h.blk.cell 0
  have kc1 : w.cell? ⟨g, 1, none⟩ = some (.int .i64 (p : Int)) := h.blk.cell 1
  have kc2 : w.cell? ⟨g, 2, none⟩ = some (.bool false) := h.blk.cell 2
  have kf2 := h.blk.frozen 2
  have hp := h.le
  have q1 : IntKind.i64.wrap ((n : Int) - (p : Int)) = (n : Int) - (p : Int) := IntWalk.i64_in _ (by omega)
  have q2 : IntKind.i64.wrap ((many : Int) + 1) = (many : Int) + 1 := IntWalk.i64_in _ (by omega)
  have d1 : decide ((n : Int) - (p : Int) < (many : Int) + 1) = true := decide_eq_true (by omega)
  have H := Lib.hid h
  clear h hs hp
  go_enter Try.func63, Try.ntmps63
  go_wp2_with fail
  go_quiet (fail)
  clear q1 q2 d1
  go_wp2_with fail
  go_ret2
  exact ⟨rfl, (H.out.drewN _).setBad, only_set (only_drewN (World.grownBy.refl w _) _) _ _⟩
set_option maxRecDepth 100000 in
set_option maxHeartbeats 1600000 in
theorem rnumber_sign {b0 : Nat} {w : World} {g : Nat} {A : Option Addr} {n c : Nat} {B : List UInt8} {p : Nat} (h : RdS b0 w g A n c B p false) (s : UInt8) (many : Nat) (hn : n ≤ 140737488351232) (hm : many ≤ 8) (hs : many + 1 ≤ n - p) (hx : B.getD p 0 ≠ s) :
    Calls Try.prog 63 #[.pointer (some ⟨g, 0, none⟩), .int .u8 (s.toNat : Int), .int .i64 (many : Int)] w fun e w' => e = .returned (.tuple #[.int .u64 0, .bool false]) ∧ RdS b0 w' g A n c B p true ∧ w.grownBy w' (some g) := by
  have hu := Try.underlying68
  have kc0 : w.cell? ⟨g, 0, none⟩ = some (.slice A n c) := h.blk.cell 0
  have kc1 : w.cell? ⟨g, 1, none⟩ = some (.int .i64 (p : Int)) := h.blk.cell 1
  have kc2 : w.cell? ⟨g, 2, none⟩ = some (.bool false) := h.blk.cell 2
  have kf2 := h.blk.frozen 2
  have hp := h.le
  obtain ⟨ad, rfl, kx⟩ := reads_cell h.rd (show p < n by omega)
  obtain ⟨x, hxe⟩ : ∃ x, x = B.getD p 0 := ⟨_, rfl⟩
  rw [← hxe] at kx hx
  have hne : ((x.toNat : Int) != (s.toNat : Int)) = true := by simpa using u8_ne hx
  have i0 : (0 : Int) ≤ (p : Int) := by omega
  have i1 : (p : Int) < (n : Int) := by omega
  have q1 : IntKind.i64.wrap ((n : Int) - (p : Int)) = (n : Int) - (p : Int) := IntWalk.i64_in _ (by omega)
  have q2 : IntKind.i64.wrap ((many : Int) + 1) = (many : Int) + 1 := IntWalk.i64_in _ (by omega)
  have d1 : decide ((n : Int) - (p : Int) < (many : Int) + 1) = false := decide_eq_false (by omega)
  have H := Lib.hid h
  clear h hs hp hx hxe
  go_enter Try.func63, Try.ntmps63
  go_wp2_with fail
  go_quiet (fail)
  clear q1 q2 d1
  go_wp2_with fail
  go_ret2
  exact ⟨rfl, (H.out.drewN _).setBad, only_set (only_drewN (World.grownBy.refl w _) _) _ _⟩
theorem num_step {B : List UInt8} {p k : Nat} (h : p + 1 + k < B.length) : Cn.num ((B.drop (p + 1)).take (k + 1)) = Cn.num ((B.drop (p + 1)).take k) * 256 + (B.getD (p + 1 + k) 0).toNat := by
  have hl : k < (B.drop (p + 1)).length := by rw [List.length_drop]; omega
  rw [List.take_succ_eq_append_getElem hl, Cn.num_snoc, List.getElem_drop, List.getD_eq_getElem?_getD, List.getElem?_eq_getElem h]
  rfl
theorem num_small (l : List UInt8) {k : Nat} (hk : k < 8) : Cn.num (l.take k) * 256 + 255 < 18446744073709551616 := by
  have h1 := Cn.num_lt (l.take k)
  have h2 : 256 ^ (l.take k).length ≤ 256 ^ 7 := Nat.pow_le_pow_right (by omega) (by rw [List.length_take]; omega)
  have h3 : (256 : Nat) ^ 7 = 72057594037927936 := by decide
  omega
set_option maxRecDepth 100000 in
set_option maxHeartbeats 1600000 in
theorem rnumber_some {b0 : Nat} {w : World} {g : Nat} {A : Option Addr} {n c : Nat} {B : List UInt8} {p : Nat} (h : RdS b0 w g A n c B p false) (s : UInt8) (many : Nat) (hn : n ≤ 140737488351232) (hm : many ≤ 8) (hs : many + 1 ≤ n - p) (hx : B.getD p 0 = s) :
    Calls Try.prog 63 #[.pointer (some ⟨g, 0, none⟩), .int .u8 (s.toNat : Int), .int .i64 (many : Int)] w fun e w' => e = .returned (.tuple #[.int .u64 (Cn.num ((B.drop (p + 1)).take many) : Int), .bool true]) ∧ Dr w w' := by
  have hu := Try.underlying68
  have kc0 : w.cell? ⟨g, 0, none⟩ = some (.slice A n c) := h.blk.cell 0
  have kc1 : w.cell? ⟨g, 1, none⟩ = some (.int .i64 (p : Int)) := h.blk.cell 1
  have kc2 : w.cell? ⟨g, 2, none⟩ = some (.bool false) := h.blk.cell 2
  have hp := h.le
  have hBl := h.len
  obtain ⟨ad, rfl, kx⟩ := reads_cell h.rd (show p < n by omega)
  rw [hx] at kx
  have hne : ((s.toNat : Int) != (s.toNat : Int)) = false := by simp
  have i0 : (0 : Int) ≤ (p : Int) := by omega
  have i1 : (p : Int) < (n : Int) := by omega
  have q1 : IntKind.i64.wrap ((n : Int) - (p : Int)) = (n : Int) - (p : Int) := IntWalk.i64_in _ (by omega)
  have q2 : IntKind.i64.wrap ((many : Int) + 1) = (many : Int) + 1 := IntWalk.i64_in _ (by omega)
  have d1 : decide ((n : Int) - (p : Int) < (many : Int) + 1) = false := decide_eq_false (by omega)
  have H := Lib.hid (And.intro h (And.intro hs (And.intro hp hBl)))
  clear h hs hp hx hBl
  go_enter Try.func63, Try.ntmps63
  go_wp2_with fail
  go_quiet (fail)
  clear q1 q2 d1 kc0 kc1 kc2 kx i0 i1 hne
  go_wp2_with fail
  go_loopw [8, 9] (fun v i wr => ∃ k : Nat, k ≤ many ∧ v = .int .u64 (Cn.num ((B.drop (p + 1)).take k) : Int) ∧ i = .int .i64 ((k : Int) + 1) ∧ Dr w wr) (fun _ i _ => (many + 1 - intOf i).toNat)
  case atStart => exact ⟨0, by omega, by simp [Cn.num], by simp, (Dr.refl w).step _⟩
  case round =>
    obtain ⟨k, hk, rfl, rfl, hd⟩ := hrel
    have HD := Lib.hid hd
    clear hd
    by_cases hkm : k < many
    · have h' := H.out.1.dr HD.out
      have kc0 : wr.cell? ⟨g, 0, none⟩ = some (.slice (some ad) n c) := h'.blk.cell 0
      have kc1 : wr.cell? ⟨g, 1, none⟩ = some (.int .i64 (p : Int)) := h'.blk.cell 1
      have hlt : p + 1 + k < n := by have := H.out.2; omega
      obtain ⟨ad', he, kx⟩ := reads_cell h'.rd (show p + (k + 1) < n by omega)
      injection he with he
      subst he
      have hst := num_step (B := B) (p := p) (k := k) (by have := H.out.2.2.2; omega)
      have hsm := num_small (B.drop (p + 1)) (show k < 8 by omega)
      obtain ⟨x, hx⟩ : ∃ x, x = B.getD (p + (k + 1)) 0 := ⟨_, rfl⟩
      rw [show p + 1 + k = p + (k + 1) by omega, ← hx] at hst
      rw [← hx] at kx
      obtain ⟨m, hmm⟩ : ∃ m, m = Cn.num ((B.drop (p + 1)).take k) := ⟨_, rfl⟩
      rw [← hmm] at hst hsm ⊢
      have HS := Lib.hid hst
      have hxl := x.toNat_lt
      have i0 : (0 : Int) ≤ (p : Int) + ((k : Int) + 1) := by omega
      have i1 : (p : Int) + ((k : Int) + 1) < (n : Int) := by omega
      have i2 : ((p : Int) + ((k : Int) + 1)).toNat = p + (k + 1) := by omega
      have q1 : IntKind.i64.wrap ((p : Int) + ((k : Int) + 1)) = (p : Int) + ((k : Int) + 1) := IntWalk.i64_in _ (by omega)
      have q2 : IntKind.u64.wrap ((m : Int) * 256) = (m : Int) * 256 := by rw [IntKind.wrap_u64]; omega
      have q3 : IntKind.u64.wrap ((m : Int) * 256 + (x.toNat : Int)) = (m : Int) * 256 + (x.toNat : Int) := by rw [IntKind.wrap_u64]; omega
      have q4 : IntKind.u64.wrap (x.toNat : Int) = (x.toNat : Int) := by rw [IntKind.wrap_u64]; omega
      clear hst hmm hx
      go_wp2_with fail
      go_quiet (fail)
      clear q1 q2 q3 q4 i0 i1 i2
      go_wp2_with fail
      go_roundw
      case rel => exact ⟨k + 1, by omega, by rw [HS.out]; go_num, by go_num, HD.out.step _⟩
      case measure => simp [intOf]; omega
    · obtain rfl : k = many := by omega
      go_wp2_with fail
      go_ret2
      exact ⟨rfl, HD.out⟩
/-- is there a number of so many bytes behind this sign -/
def numOk (B : List UInt8) (p : Nat) (bad : Bool) (s : UInt8) (many : Nat) : Bool := !bad && (decide (many + 1 ≤ B.length - p) && decide (B.getD p 0 = s))
theorem rnumber_yes {b0 : Nat} {w : World} {g : Nat} {A : Option Addr} {n c : Nat} {B : List UInt8} {p : Nat} {bad : Bool} (h : RdS b0 w g A n c B p bad) (s : UInt8) (many : Nat) (hn : n ≤ 140737488351232) (hm : many ≤ 8) (ho : numOk B p bad s many = true) :
    Calls Try.prog 63 #[.pointer (some ⟨g, 0, none⟩), .int .u8 (s.toNat : Int), .int .i64 (many : Int)] w fun e w' => e = .returned (.tuple #[.int .u64 (Cn.num ((B.drop (p + 1)).take many) : Int), .bool true]) ∧ RdS b0 w' g A n c B p bad ∧ w.grownBy w' (some g) := by
  have hl := h.len
  unfold numOk at ho
  rw [Bool.and_eq_true, Bool.and_eq_true, decide_eq_true_eq, decide_eq_true_eq] at ho
  cases bad with
  | true => simp at ho
  | false => exact (rnumber_some h s many hn hm (by omega) ho.2.2).mono fun e w' hh => ⟨hh.1, h.dr hh.2, dr_grown hh.2 _⟩
theorem rnumber_no {b0 : Nat} {w : World} {g : Nat} {A : Option Addr} {n c : Nat} {B : List UInt8} {p : Nat} {bad : Bool} (h : RdS b0 w g A n c B p bad) (s : UInt8) (many : Nat) (hn : n ≤ 140737488351232) (hm : many ≤ 8) (ho : numOk B p bad s many = false) :
    Calls Try.prog 63 #[.pointer (some ⟨g, 0, none⟩), .int .u8 (s.toNat : Int), .int .i64 (many : Int)] w fun e w' => e = .returned (.tuple #[.int .u64 0, .bool false]) ∧ RdS b0 w' g A n c B p true ∧ w.grownBy w' (some g) := by
  have hl := h.len
  cases bad with
  | true => exact rnumber_bad h _ many
  | false =>
    by_cases h1 : many + 1 ≤ n - p
    · refine rnumber_sign h s many hn hm h1 fun e => ?_
      unfold numOk at ho
      rw [hl, decide_eq_true h1, decide_eq_true e] at ho
      cases ho
    · exact rnumber_short h _ many hn hm (by omega)
/-- what Uint reads: the number, the place behind it, is the reader bad -/
def uOut (B : List UInt8) (p : Nat) (bad : Bool) : Nat × Nat × Bool := if numOk B p bad 117 8 = true then (Cn.num ((B.drop (p + 1)).take 8), p + 9, bad) else (0, p, true)
set_option maxHeartbeats 1600000 in
theorem ruintR_any {b0 : Nat} {w : World} {g : Nat} {A : Option Addr} {n c : Nat} {B : List UInt8} {p : Nat} {bad : Bool} (h : RdS b0 w g A n c B p bad) (hn : n ≤ 140737488351232) :
    Calls Try.prog 47 #[.pointer (some ⟨g, 0, none⟩)] w fun e w' => e = .returned (.int .u64 ((uOut B p bad).1 : Int)) ∧ RdS b0 w' g A n c B (uOut B p bad).2.1 (uOut B p bad).2.2 ∧ w.grownBy w' (some g) := by
  have hu := Try.underlying68
  have hl := h.len
  have hp := h.le
  unfold uOut
  by_cases ho : numOk B p bad 117 8 = true
  · rw [if_pos ho]
    have h9 : p + 9 ≤ n := by
      unfold numOk at ho
      rw [Bool.and_eq_true, Bool.and_eq_true, decide_eq_true_eq] at ho
      omega
    have HO := Lib.hid ho
    have H := Lib.hid h
    clear ho h hl
    go_enter Try.func47, Try.ntmps47
    go_wp2_with fail
    refine (rnumber_yes H.out 117 8 hn (by omega) HO.out).mono ?_
    rintro e w1 ⟨rfl, h1, hg1⟩
    have kc1 : w1.cell? ⟨g, 1, none⟩ = some (.int .i64 (p : Int)) := h1.blk.cell 1
    have kf1 := h1.blk.frozen 1
    have H1 := Lib.hid (And.intro h1 hg1)
    clear h1 hg1
    go_wp2_with fail
    go_ret
    exact ⟨rfl, H1.out.1.setAt (q := p + 9) h9, only_set H1.out.2 _ _⟩
  · have ho' : numOk B p bad 117 8 = false := by simpa using ho
    rw [if_neg ho]
    have HO := Lib.hid ho'
    have H := Lib.hid h
    clear ho ho' h hl
    go_enter Try.func47, Try.ntmps47
    go_wp2_with fail
    refine (rnumber_no H.out 117 8 hn (by omega) HO.out).mono ?_
    rintro e w1 ⟨rfl, h1, hg1⟩
    have H1 := Lib.hid (And.intro h1 hg1)
    clear h1 hg1
    go_wp2_with fail
    go_ret
    exact ⟨rfl, H1.out.1, H1.out.2⟩
/-- what some reads: the bytes, the place behind them, is the reader bad -/
def sOut (s : UInt8) (B : List UInt8) (p : Nat) (bad : Bool) : List UInt8 × Nat × Bool :=
  if numOk B p bad s 4 = true then (if Cn.num ((B.drop (p + 1)).take 4) ≤ B.length - p - 5 then ((B.drop (p + 5)).take (Cn.num ((B.drop (p + 1)).take 4)), p + 5 + Cn.num ((B.drop (p + 1)).take 4), bad) else ([], p, true)) else ([], p, true)
/-- bytes that a reader hands back: new, and apart from the reader -/
def RetS (b0 : Nat) (w : World) (g : Nat) (A : Option Addr) (n c : Nat) (B : List UInt8) (o : List UInt8 × Nat × Bool) (e : Ending) (w' : World) : Prop :=
  ∃ A' n' c', e = .returned (.slice A' n' c') ∧ w'.ownsRow w.heap.size 5 1 (.slice A' n' c') n' (B8 o.1) ∧ RdS b0 w' g A n c B o.2.1 o.2.2 ∧ w.grownBy w' (some g)
theorem nil_row (w : World) (base : Nat) : w.ownsRow base 5 1 (.slice none 0 0) 0 (B8 []) := World.ownsRow_nil _ _ _ _
theorem cut_run {w : World} {b : Nat} {A : Option Addr} {n c : Nat} {B : List UInt8} (lo hi : Nat) (h : Reads w b 1 A n (B8 B)) (h1 : lo ≤ hi) (h2 : hi ≤ n) (hc : n ≤ c) :
    ∃ A' : Option Addr, (∀ W : World, (Instr.slice 25 (.slice A n c) (some (.int .i64 (lo : Int))) (some (.int .i64 (hi : Int))) none).run Try.prog W = .ok (.slice A' (hi - lo) (c - lo)) W) ∧ Reads w b 1 A' (hi - lo) (B8 ((B.drop lo).take (hi - lo))) := by
  obtain ⟨i0, hi0, hz0, hz1, hz2⟩ := info_parts info_u8
  have hl := h.bytes_length
  refine ⟨if c = lo then A else A.map (·.add lo), fun W => ?_, ?_⟩
  · have hel : Try.prog.elem 25 = 5 := by simp [Program.elem, Try.underlying25]
    have hu : Try.prog.underlying 25 = some (.slice (Try.prog.elem 25)) := by rw [hel]; exact Try.underlying25
    rw [run_slice_lh W 25 A n c hu .i64 .i64 (lo : Int) (hi : Int) (by omega) (by omega) (by omega), hel]
    simp [sizeOf, typeInfo, hi0, hz1, sliced, Result.andThen]
  · have h3 := h.cut (k := lo) (cap := c) (by omega) hc
    rw [Nat.mul_one] at h3
    refine ⟨by rw [B8_length, List.length_take, List.length_drop]; omega, fun hp => ?_⟩
    obtain ⟨ad, he, hb, hcell⟩ := h3.2 (by omega)
    refine ⟨ad, he, hb, fun j u hu => hcell j u ?_⟩
    rw [← hu]
    unfold B8
    rw [List.map_take, List.map_drop, List.getElem?_take]
    have hj : j < hi - lo := by
      have := (List.getElem?_eq_some_iff.1 hu).1
      rw [B8_length, List.length_take] at this
      omega
    rw [if_pos hj]
set_option maxRecDepth 100000 in
set_option maxHeartbeats 1600000 in
theorem rsome_no {b0 : Nat} {w : World} {g : Nat} {A : Option Addr} {n c : Nat} {B : List UInt8} {p : Nat} {bad : Bool} (h : RdS b0 w g A n c B p bad) (s : UInt8) (hn : n ≤ 140737488351232) (ho : numOk B p bad s 4 = false) :
    Calls Try.prog 64 #[.pointer (some ⟨g, 0, none⟩), .int .u8 (s.toNat : Int)] w (RetS b0 w g A n c B ([], p, true)) := by
  have hu := Try.underlying68
  have hl := h.len
  have hp := h.le
  have HO := Lib.hid ho
  have H := Lib.hid h
  clear ho h hl
  go_enter Try.func64, Try.ntmps64
  go_wp2_with fail
  refine (rnumber_no H.out s 4 hn (by omega) HO.out).mono ?_
  rintro e w1 ⟨rfl, h1, hg1⟩
  have kf2 := h1.blk.frozen 2
  have kc2 : w1.cell? ⟨g, 2, none⟩ = some (.bool true) := h1.blk.cell 2
  have H1 := Lib.hid (And.intro h1 hg1)
  clear h1 hg1
  go_wp2_with fail
  go_quiet (fail)
  go_wp2_with fail
  go_ret
  exact ⟨none, 0, 0, rfl, nil_row _ _, (H1.out.1.drewN _).setBad, only_set (only_drewN H1.out.2 _) _ _⟩
set_option maxRecDepth 100000 in
set_option maxHeartbeats 1600000 in
theorem rsome_long {b0 : Nat} {w : World} {g : Nat} {A : Option Addr} {n c : Nat} {B : List UInt8} {p : Nat} {bad : Bool} (h : RdS b0 w g A n c B p bad) (s : UInt8) (hn : n ≤ 140737488351232) (ho : numOk B p bad s 4 = true) {N : Nat} (hN : N = Cn.num ((B.drop (p + 1)).take 4)) (hgt : n < p + 5 + N) :
    Calls Try.prog 64 #[.pointer (some ⟨g, 0, none⟩), .int .u8 (s.toNat : Int)] w (RetS b0 w g A n c B ([], p, true)) := by
  have hu := Try.underlying68
  have hl := h.len
  have hp := h.le
  have h5 : p + 5 ≤ n := by
    unfold numOk at ho
    rw [Bool.and_eq_true, Bool.and_eq_true, decide_eq_true_eq] at ho
    omega
  have hN1 : N < 4294967296 := by
    have h1 := Cn.num_lt ((B.drop (p + 1)).take 4)
    have h2 : 256 ^ ((B.drop (p + 1)).take 4).length ≤ 256 ^ 4 := Nat.pow_le_pow_right (by omega) (by rw [List.length_take]; omega)
    have h3 : (256 : Nat) ^ 4 = 4294967296 := by decide
    omega
  have HO := Lib.hid (And.intro ho hN)
  have H := Lib.hid (And.intro h hl)
  clear ho h hl hN
  have q1 : IntKind.i64.wrap ((n : Int) - (p : Int)) = (n : Int) - (p : Int) := IntWalk.i64_in _ (by omega)
  have q2 : IntKind.i64.wrap ((n : Int) - (p : Int) - 5) = (n : Int) - (p : Int) - 5 := IntWalk.i64_in _ (by omega)
  have q3 : IntKind.u64.wrap ((n : Int) - (p : Int) - 5) = (n : Int) - (p : Int) - 5 := by rw [IntKind.wrap_u64]; omega
  have d1 : decide ((N : Int) > (n : Int) - (p : Int) - 5) = true := decide_eq_true (by omega)
  have d3 : (n : Int) - (p : Int) - 5 < (N : Int) := by omega
  have d2 : decide ((n : Int) - (p : Int) - 5 < (N : Int)) = true := decide_eq_true (by omega)
  go_enter Try.func64, Try.ntmps64
  go_wp2_with fail
  refine (rnumber_yes H.out.1 s 4 hn (by omega) HO.out.1).mono ?_
  rw [← HO.out.2]
  rintro e w1 ⟨rfl, h1, hg1⟩
  have kc0 : w1.cell? ⟨g, 0, none⟩ = some (.slice A n c) := h1.blk.cell 0
  have kc1 : w1.cell? ⟨g, 1, none⟩ = some (.int .i64 (p : Int)) := h1.blk.cell 1
  have kc2 : w1.cell? ⟨g, 2, none⟩ = some (.bool bad) := h1.blk.cell 2
  have kf2 := h1.blk.frozen 2
  have H1 := Lib.hid (And.intro h1 hg1)
  clear h1 hg1
  go_wp2_with fail
  go_quiet (fail)
  clear q1 q2 q3 d1 d2 d3
  go_wp2_with fail
  go_ret
  exact ⟨none, 0, 0, rfl, nil_row _ _, (H1.out.1.drewN _).setBad, only_set (only_drewN H1.out.2 _) _ _⟩
set_option maxRecDepth 100000 in
set_option maxHeartbeats 1600000 in
theorem rsome_fit {b0 : Nat} {w : World} {g : Nat} {A : Option Addr} {n c : Nat} {B : List UInt8} {p : Nat} {bad : Bool} (h : RdS b0 w g A n c B p bad) (s : UInt8) (hn : n ≤ 140737488351232) (ho : numOk B p bad s 4 = true) {N : Nat} (hN : N = Cn.num ((B.drop (p + 1)).take 4)) (hgt : p + 5 + N ≤ n) :
    Calls Try.prog 64 #[.pointer (some ⟨g, 0, none⟩), .int .u8 (s.toNat : Int)] w (RetS b0 w g A n c B ((B.drop (p + 5)).take N, p + 5 + N, bad)) := by
  have hu := Try.underlying68
  have hl := h.len
  have hp := h.le
  have h5 : p + 5 ≤ n := by
    unfold numOk at ho
    rw [Bool.and_eq_true, Bool.and_eq_true, decide_eq_true_eq] at ho
    omega
  have hN1 : N < 4294967296 := by
    have h1 := Cn.num_lt ((B.drop (p + 1)).take 4)
    have h2 : 256 ^ ((B.drop (p + 1)).take 4).length ≤ 256 ^ 4 := Nat.pow_le_pow_right (by omega) (by rw [List.length_take]; omega)
    have h3 : (256 : Nat) ^ 4 = 4294967296 := by decide
    omega
  have HO := Lib.hid (And.intro ho hN)
  have H := Lib.hid (And.intro h hl)
  clear ho h hl hN
  have q1 : IntKind.i64.wrap ((n : Int) - (p : Int)) = (n : Int) - (p : Int) := IntWalk.i64_in _ (by omega)
  have q2 : IntKind.i64.wrap ((n : Int) - (p : Int) - 5) = (n : Int) - (p : Int) - 5 := IntWalk.i64_in _ (by omega)
  have q3 : IntKind.u64.wrap ((n : Int) - (p : Int) - 5) = (n : Int) - (p : Int) - 5 := by rw [IntKind.wrap_u64]; omega
  have d1 : decide ((N : Int) > (n : Int) - (p : Int) - 5) = false := decide_eq_false (by omega)
  have d3 : ¬ ((n : Int) - (p : Int) - 5 < (N : Int)) := by omega
  have d2 : decide ((n : Int) - (p : Int) - 5 < (N : Int)) = false := decide_eq_false (by omega)
  go_enter Try.func64, Try.ntmps64
  go_wp2_with fail
  refine (rnumber_yes H.out.1 s 4 hn (by omega) HO.out.1).mono ?_
  rw [← HO.out.2]
  rintro e w1 ⟨rfl, h1, hg1⟩
  have kc0 : w1.cell? ⟨g, 0, none⟩ = some (.slice A n c) := h1.blk.cell 0
  have kc1 : w1.cell? ⟨g, 1, none⟩ = some (.int .i64 (p : Int)) := h1.blk.cell 1
  have kc2 : w1.cell? ⟨g, 2, none⟩ = some (.bool bad) := h1.blk.cell 2
  have kf2 := h1.blk.frozen 2
  have H1 := Lib.hid (And.intro h1 hg1)
  clear h1 hg1
  go_wp2_with fail
  go_quiet (fail)
  clear q1 q2 q3 d1 d2 d3
  have p1 : IntKind.i64.wrap ((p : Int) + 5) = (p : Int) + 5 := IntWalk.i64_in _ (by omega)
  have p2 : IntKind.i64.wrap (N : Int) = (N : Int) := IntWalk.i64_in _ (by omega)
  have p3 : IntKind.i64.wrap ((p : Int) + 5 + (N : Int)) = (p : Int) + 5 + (N : Int) := IntWalk.i64_in _ (by omega)
  go_wp2_with fail
  obtain ⟨w2, hw2⟩ : ∃ w2, w2 = w1.drewN nq := ⟨_, rfl⟩
  rw [← hw2]
  have kc0' : w2.cell? ⟨g, 0, none⟩ = some (.slice A n c) := by rw [hw2]; exact kc0
  have kc1' : w2.cell? ⟨g, 1, none⟩ = some (.int .i64 (p : Int)) := by rw [hw2]; exact kc1
  have h2 : RdS b0 w2 g A n c B p bad ∧ w.grownBy w2 (some g) := by rw [hw2]; exact ⟨H1.out.1.drewN _, only_drewN H1.out.2 _⟩
  clear hw2 kc0 kc1 kc2 kf2
  have hcap := h2.1.cap
  have hsz := h2.2.size
  obtain ⟨A2, hrun, hrd⟩ := cut_run (w := w2) (b := b0) (A := A) (c := c) (p + 5) (p + 5 + N) h2.1.rd (by omega) (by omega) hcap
  rw [show ((p + 5 : Nat) : Int) = (p : Int) + 5 by omega, show ((p + 5 + N : Nat) : Int) = (p : Int) + 5 + (N : Int) by omega, show p + 5 + N - (p + 5) = N by omega] at hrun
  rw [show p + 5 + N - (p + 5) = N by omega] at hrd
  have H2 := Lib.hid (And.intro h2 hrd)
  clear h2 hrd hcap
  have hlt2 : g < w2.heap.size := H2.out.1.1.lt
  go_region_held3 (fun w' => w'.cell? ⟨g, 0, none⟩ = some (.slice A n c) ∧ w'.cell? ⟨g, 1, none⟩ = some (.int .i64 (p : Int)))
    (first | exact ⟨kc0', kc1'⟩ | exact ⟨grown_cell hg3 (by exact (World.cell?_alloc_lt w2 _ _ hlt2).trans kc0') (fun e => by injection e with e; exact absurd e (Nat.ne_of_lt hlt2)), grown_cell hg3 (by exact (World.cell?_alloc_lt w2 _ _ hlt2).trans kc1') (fun e => by injection e with e; exact absurd e (Nat.ne_of_lt hlt2))⟩ | go_keep)
    ((refine step_append_bytes (w0 := (w2.alloc (.cells #[] 5)).drew) w.heap.size (by rfl) (.tmp 35) (.tmp 53) (by rfl) _ 0 [] ((B.drop (p + 5)).take N) (by rfl) (own_empty w2 w.heap.size hsz) A2 N (c - (p + 5)) (by rfl) b0 ((H2.out.2).alloc (by have := H2.out.1.1.ge; have := H2.out.1.1.lt; omega) _) (by rw [List.length_take]; simp; omega) (by simp; omega) (Below.refl _ _) ?_; intro A3 n3 c3 w3 hown3 hb3 hg3))
  have hR3 : RdS b0 w3 g A n c B p bad ∧ w.grownBy w3 (some g) := by
    have e1 : RdS b0 (w2.alloc (.cells #[] 5)).drew g A n c B p bad := (H2.out.1.1.alloc _).drewN 1
    have e2 : w.grownBy (w2.alloc (.cells #[] 5)).drew (some g) := only_drew (only_alloc H2.out.1.2 _)
    refine ⟨e1.grown hg3 (fun e => by injection e with e; exact absurd e (Nat.ne_of_lt hlt2)) (fun k hk => by injection hk with hk; have := H2.out.1.1.ge; show b0 ≤ k; simp at hk; omega), ?_⟩
    exact only_then e2 hg3 (fun k hk => by injection hk with hk; right; show w.heap.size ≤ k; simp at hk; omega)
  have kc1'' : w3.cell? ⟨g, 1, none⟩ = some (.int .i64 (p : Int)) := hR3.1.blk.cell 1
  have kf1 := hR3.1.blk.frozen 1
  have H3 := Lib.hid (And.intro hR3 hown3)
  clear hR3 hown3 hb3 hg3 kc0' kc1'
  go_wp2_with fail
  go_ret
  exact ⟨A3, n3, c3, rfl, own_far H3.out.2 (by
    intro e
    have := H3.out.2
    exact absurd e (own_blk_ne this H3.out.1.1.blk (by decide))), H3.out.1.1.setAt hgt, only_set H3.out.1.2 _ _⟩
theorem rsome_any {b0 : Nat} {w : World} {g : Nat} {A : Option Addr} {n c : Nat} {B : List UInt8} {p : Nat} {bad : Bool} (h : RdS b0 w g A n c B p bad) (s : UInt8) (hn : n ≤ 140737488351232) :
    Calls Try.prog 64 #[.pointer (some ⟨g, 0, none⟩), .int .u8 (s.toNat : Int)] w (RetS b0 w g A n c B (sOut s B p bad)) := by
  have hl := h.len
  have hp := h.le
  unfold sOut
  by_cases ho : numOk B p bad s 4 = true
  · rw [if_pos ho]
    have h5 : p + 5 ≤ B.length := by
      have ho' := ho
      unfold numOk at ho'
      rw [Bool.and_eq_true, Bool.and_eq_true, decide_eq_true_eq] at ho'
      omega
    by_cases hg : Cn.num ((B.drop (p + 1)).take 4) ≤ B.length - p - 5
    · rw [if_pos hg]
      exact rsome_fit h s hn ho rfl (by omega)
    · rw [if_neg hg]
      exact rsome_long h s hn ho rfl (by omega)
  · rw [if_neg ho]
    exact rsome_no h s hn (by simpa using ho)
set_option maxHeartbeats 800000 in
theorem rbytesR_any {b0 : Nat} {w : World} {g : Nat} {A : Option Addr} {n c : Nat} {B : List UInt8} {p : Nat} {bad : Bool} (h : RdS b0 w g A n c B p bad) (hn : n ≤ 140737488351232) :
    Calls Try.prog 49 #[.pointer (some ⟨g, 0, none⟩)] w (RetS b0 w g A n c B (sOut 98 B p bad)) := by
  have H := Lib.hid h
  clear h
  go_enter Try.func49, Try.ntmps49
  go_wp2_with fail
  refine (rsome_any H.out 98 hn).mono ?_
  rintro e w1 ⟨A1, n1, c1, rfl, h1⟩
  have H1 := Lib.hid h1
  clear h1
  go_wp2_with fail
  go_ret
  exact ⟨A1, n1, c1, rfl, H1.out⟩
/-- a text that a reader hands back -/
def RetT (b0 : Nat) (w : World) (g : Nat) (A : Option Addr) (n c : Nat) (B : List UInt8) (o : List UInt8 × Nat × Bool) (e : Ending) (w' : World) : Prop :=
  e = .returned (.string ⟨o.1.toArray⟩) ∧ RdS b0 w' g A n c B o.2.1 o.2.2 ∧ w.grownBy w' (some g)
set_option maxHeartbeats 800000 in
theorem rtextR_any {b0 : Nat} {w : World} {g : Nat} {A : Option Addr} {n c : Nat} {B : List UInt8} {p : Nat} {bad : Bool} (h : RdS b0 w g A n c B p bad) (hn : n ≤ 140737488351232) :
    Calls Try.prog 48 #[.pointer (some ⟨g, 0, none⟩)] w (RetT b0 w g A n c B (sOut 115 B p bad)) := by
  have H := Lib.hid h
  clear h
  go_enter Try.func48, Try.ntmps48
  go_wp2_with fail
  refine (rsome_any H.out 115 hn).mono ?_
  rintro e w1 ⟨A1, n1, c1, rfl, ho1, h1⟩
  have H1 := Lib.hid h1
  have ht := run_text_bytes (c := c1) (Reads.of_own ho1)
  clear h1 ho1
  go_wp2_with fail
  go_ret
  exact ⟨rfl, H1.out⟩
end Go.Proofs.Ytjnakhgpenafdaa
