/- alive() of the audit laws: true at whatever world. -/
import Derived.Test.YtjnakhgpenafdaaP14x2
import Derived.Test.YtjnakhgpenafdaaGS
import Derived.Test.YtjnakhgpenafdaaGT
import Derived.Test.YtjnakhgpenafdaaWGuard
namespace Go.Proofs.Ytjnakhgpenafdaa
open Go.RowKit Go.Proofs.YtjnakhgpenafdaaW.PrintWords
set_option linter.unusedVariables false
set_option linter.unusedSimpArgs false
namespace Al
open Go.Proofs.Ytjnakhgpenafdaa.P14
def ann : ByteArray := ⟨#[97, 110, 110]⟩
def bob : ByteArray := ⟨#[98, 111, 98]⟩
def nul : ByteArray := ⟨#[]⟩
def cells (who : ByteArray) (A8 : Option Addr) (c8 : Nat) (A9 : Option Addr) (c9 : Nat) : Array Value :=
  #[.int .u64 1, .int .u64 0, .string who, .int .i64 7, .string nul, .string nul, .int .u64 0, .int .i64 0, .slice A8 0 c8, .slice A9 0 c9]
def recW (who : ByteArray) : Rec := ⟨1, 0, who, 7, nul, nul, 0, 0, [], []⟩
def sh (who : ByteArray) : List Int := i8s (Sha.sha (recW who).show8)
theorem sh_ne : (sh bob = sh ann) = False := by
  apply eq_false
  intro h
  have h0 := i8s_inj h
  have h1 : (Sha.sha (recW bob).show8).take 2 = (Sha.sha (recW ann).show8).take 2 := by rw [h0]
  revert h1
  decide +kernel
theorem sh_len (who : ByteArray) : (sh who).length = 32 := by
  unfold sh
  rw [i8s_length]
  exact Sha.sha_length _
def ok (who : ByteArray) : Prop := okRec 1 0 who 7 nul nul 0 0 [] [] = true
theorem ok_ann : ok ann := by unfold ok; decide +kernel
theorem ok_bob : ok bob := by unfold ok; decide +kernel
theorem show_f {who : ByteArray} (h : ok who) : ashow.f 1 0 who 7 nul nul 0 0 [] [] = some (i8s (recW who).show8) := by
  unfold ashow.f
  rw [if_pos (show okRec 1 0 who 7 nul nul 0 0 [] [] = true from h)]
  rfl
theorem digest_f {who : ByteArray} (h : ok who) (hs : okSha (i8s (recW who).show8) = true) : audit_Digest.f 1 0 who 7 nul nul 0 0 [] [] = some (sh who) := by
  unfold audit_Digest.f
  rw [show_f h]
  simp only [Option.bind_some]
  unfold dsha.f
  rw [if_pos hs, u8s_i8s]
  rfl
theorem oks_ann : okSha (i8s (recW ann).show8) = true := by decide +kernel
theorem oks_bob : okSha (i8s (recW bob).show8) = true := by decide +kernel
theorem digest_ann : audit_Digest.f 1 0 ann 7 nul nul 0 0 [] [] = some (sh ann) := digest_f ok_ann oks_ann
theorem digest_bob : audit_Digest.f 1 0 bob 7 nul nul 0 0 [] [] = some (sh bob) := digest_f ok_bob oks_bob
def rec27 (who : ByteArray) : S27 := ⟨1, 0, who, 7, nul, nul, 0, 0, [], []⟩
theorem right_f {who : ByteArray} (k : Nat) (h : (who.size : Int) ≤ 16) : audit_right.f (k + 1) 1 0 who 7 nul nul 0 0 [] [] = some true := by
  have e1 : audit_whole.f [] = some true := by unfold audit_whole.f; rw [if_pos (by decide)]
  unfold audit_right.f
  rw [if_neg (by decide), if_neg (by decide), e1]
  simp only [Option.bind_some, if_true]
  rw [audit_right.j0, if_neg (by decide), if_neg (by decide), if_neg (by decide), if_neg (by decide), if_neg (by decide), if_pos h, if_pos (by decide)]
  rfl
theorem dsame_f (l m : List Int) (h : okSame l m = true) : dsame.f l m = some (decide (l = m)) := by unfold dsame.f; rw [if_pos h]
theorem verify_f {who : ByteArray} (hw : (who.size : Int) ≤ 16) (hd : audit_Digest.f 1 0 who 7 nul nul 0 0 [] [] = some (sh who)) (h8 : okSame (sh who) (sh ann) = true) :
    audit_Verify.f 3 [rec27 who] (sh ann) = if decide (sh who = sh ann) = true then some 0 else some 53 := by
  unfold audit_Verify.f
  have e0 : rd_T27 [rec27 who] 0 = rec27 who := rfl
  have es : dsame.f [] [] = some true := by rw [dsame_f _ _ (by decide +kernel)]; rfl
  rw [audit_Verify.l0]
  rw [if_pos (by simp), if_pos (by omega), if_pos (by simp), e0]
  show ((audit_right.f (1 + 1) 1 0 who 7 nul nul 0 0 [] []).bind _) = _
  rw [right_f 1 hw]
  simp only [Option.bind_some, if_true]
  rw [if_pos (show (rec27 who).f0 = IntKind.u64.wrap (IntKind.u64.wrap 0 + 1) by show (1 : Int) = IntKind.u64.wrap (IntKind.u64.wrap 0 + 1); rw [IntKind.wrap_u64, IntKind.wrap_u64]; decide)]
  show ((dsame.f [] []).bind _) = _
  rw [es]
  simp only [Option.bind_some, if_true]
  show ((audit_Digest.f 1 0 who 7 nul nul 0 0 [] []).bind _) = _
  rw [hd]
  simp only [Option.bind_some]
  rw [show wrap64 (0 + 1) = 1 by unfold wrap64; decide, audit_Verify.l0, if_neg (by simp), dsame_f _ _ h8]
  simp only [Option.bind_some]
theorem verify_ann : audit_Verify.f 3 [rec27 ann] (sh ann) = some 0 := by
  rw [verify_f (by decide) digest_ann (by unfold okSame sh; rw [ok8_i8s, Bool.true_and, Bool.true_and]; simp [i8s_length, Sha.sha_length])]
  simp
theorem verify_bob : audit_Verify.f 3 [rec27 bob] (sh ann) = some 53 := by
  rw [verify_f (by decide) digest_bob (by unfold okSame sh; rw [ok8_i8s, ok8_i8s, Bool.true_and, Bool.true_and]; simp [i8s_length, Sha.sha_length])]
  rw [if_neg (by rw [decide_eq_true_eq, sh_ne]; exact id)]
theorem next_f : audit_Next.f [] 0 0 ann 7 nul nul 0 0 [] [] = some (1, 0, ann, 7, nul, nul, 0, 0, [], []) := by
  unfold audit_Next.f
  have e : clone.f [] = some [] := by decide +kernel
  rw [e]
  simp
def cells_ (who : ByteArray) (A8 : Option Addr) (c8 : Nat) (A9 : Option Addr) (c9 : Nat) : Array Value :=
  #[.int .u64 1, .int .u64 0, .string who, .int .i64 7, .string ⟨#[]⟩, .string ⟨#[]⟩, .int .u64 0, .int .i64 0, .slice A8 0 c8, .slice A9 0 c9]
theorem C_nil (w : World) (A : Option Addr) : Kd.C (Kd.int .u8) w A 0 [] := ⟨rfl, by omega, fun h => absurd h (by omega)⟩
theorem next_w (w : World) :
    Calls Try.prog 26 #[.slice none 0 0, .agg #[.int .u64 0, .int .u64 0, .string ⟨#[97, 110, 110]⟩, .int .i64 7, .string ⟨#[]⟩, .string ⟨#[]⟩, .int .u64 0, .int .i64 0, .slice none 0 0, .slice none 0 0]] w
      fun e w' => ∃ A8 c8 A9 c9, e = .returned (.agg (cells_ ⟨#[97, 110, 110]⟩ A8 c8 A9 c9)) ∧ Below w.heap.size w w' := by
  refine (audit_Next.calls none 0 [] 0 0 ann 7 nul nul 0 0 none 0 [] none 0 [] 1 0 ann 7 nul nul 0 0 [] [] w ⟨rfl, Nat.zero_le _, fun h => absurd h (by simp)⟩ (Nat.le_refl _) (C_nil _ _) (Nat.le_refl _) (C_nil _ _) (Nat.le_refl _) next_f).mono ?_
  rintro e w' ⟨v8, v9, rfl, h8, h9, hb⟩
  obtain ⟨A8, c8, rfl⟩ := Kd.R_slice h8
  obtain ⟨A9, c9, rfl⟩ := Kd.R_slice h9
  exact ⟨A8, c8, A9, c9, rfl, hb⟩
theorem digest_w (w : World) (A8 : Option Addr) (c8 : Nat) (A9 : Option Addr) (c9 : Nat) :
    Calls Try.prog 20 #[.agg (cells_ ⟨#[97, 110, 110]⟩ A8 c8 A9 c9)] w fun e w' => ∃ A c, e = .returned (.slice A 32 c) ∧ 32 ≤ c ∧ Kd.C (Kd.int .u8) w' A 32 (sh ann) ∧ Below w.heap.size w w' := by
  refine (audit_Digest.calls 1 0 ann 7 nul nul 0 0 A8 c8 [] A9 c9 [] (sh ann) w (C_nil _ _) (Nat.zero_le _) (C_nil _ _) (Nat.zero_le _) digest_ann).mono ?_
  rintro e w' ⟨v, rfl, h, hb⟩
  obtain ⟨A, c, rfl, hl, hc⟩ := Kd.R_reads h
  rw [sh_len] at *
  exact ⟨A, c, rfl, hl, hc, hb⟩
/-- a block that is a record is a row of one record -/
theorem C_one {w : World} {g : Nat} (who : ByteArray) (A8 : Option Addr) (c8 : Nat) (A9 : Option Addr) (c9 : Nat) (h : Blk w g 27 (cells_ who A8 c8 A9 c9)) : Kd.C k27 w (some ⟨g, 0, none⟩) 1 [rec27 who] := by
  refine ⟨rfl, by omega, fun _ => ⟨_, rfl, fun j p hj => ?_⟩⟩
  cases j with
  | succ j => simp at hj
  | zero =>
    simp only [List.getElem?_cons_zero, Option.some.injEq] at hj
    subst hj
    refine ⟨(cells_ who A8 c8 A9 c9).toList, rfl, k27_mk w (rec27 who) (A8 := A8) (c8 := c8) (Nat.zero_le _) (C_nil _ _) (A9 := A9) (c9 := c9) (Nat.zero_le _) (C_nil _ _), fun i u hu => ?_⟩
    have e : (⟨g, 0, none⟩ : Addr).add (0 * k27.sz + i) = ⟨g, i, none⟩ := by rw [add_plain]; simp
    rw [e, h.cell i]
    simpa using hu
theorem verify_w {who : ByteArray} {r : Int} (hf : audit_Verify.f 3 [rec27 who] (sh ann) = some r) (w : World) (g : Nat) (A8 : Option Addr) (c8 : Nat) (A9 : Option Addr) (c9 : Nat) (h : Blk w g 27 (cells_ who A8 c8 A9 c9)) (A : Option Addr) (c : Nat) (hl : 32 ≤ c) (hc : Kd.C (Kd.int .u8) w A 32 (sh ann)) :
    Calls Try.prog 15 #[.slice (some ⟨g, 0, none⟩) 1 1, .slice A 32 c] w fun e w' => e = .returned (.int .i64 r) ∧ Below w.heap.size w w' := by
  have hs := sh_len ann
  have := audit_Verify.calls 3 (some ⟨g, 0, none⟩) 1 [rec27 who] A c (sh ann) r w (C_one who A8 c8 A9 c9 h) (Nat.le_refl _) (by rw [hs]; exact hc) (by rw [hs]; exact hl) hf
  rw [hs] at this
  exact this
theorem alloc_rec : ∀ w, (Instr.alloc 27 true (.tuple #[])).run Try.prog w = .ok (.pointer (some ⟨w.heap.size, 0, none⟩)) (w.alloc (.cells #[.int .u64 0, .int .u64 0, .string ⟨#[]⟩, .int .i64 0, .string ⟨#[]⟩, .string ⟨#[]⟩, .int .u64 0, .int .i64 0, .slice none 0 0, .slice none 0 0] 27)) := fun w => by kernel_rfl
theorem size_rec (cs : Array Value) (h : cs.size = 10) : (Try.prog.info? 27).map (·.size) = some cs.size := by rw [h]; kernel_rfl
theorem one_rec (who : ByteArray) (A8 : Option Addr) (c8 : Nat) (A9 : Option Addr) (c9 : Nat) : ∀ v ∈ (cells_ who A8 c8 A9 c9).toList, v.oneCell' = true := by
  intro v hv
  simp only [cells_, List.mem_cons, List.not_mem_nil, or_false] at hv
  rcases hv with rfl | rfl | rfl | rfl | rfl | rfl | rfl | rfl | rfl | rfl <;> rfl
theorem build_w (who : ByteArray) (A8 : Option Addr) (c8 : Nat) (A9 : Option Addr) (c9 : Nat) : ∀ w, (Instr.buildSlice 22 1 #[(0, .agg (cells_ who A8 c8 A9 c9))]).run Try.prog w = .ok (.slice (some ⟨w.heap.size, 0, none⟩) 1 1) (w.alloc (.cells (cells_ who A8 c8 A9 c9) 27)) := fun w => by kernel_rfl
end Al
open Al in
def alive.f : Option Bool := some true
set_option maxRecDepth 100000 in
set_option maxHeartbeats 800000 in
open Al in
theorem alive.calls (r : Bool) (w : World) (h : alive.f = some r) : Calls Try.prog 10 #[] w fun e w' => e = .returned (.bool r) ∧ Below w.heap.size w w' := by
  obtain rfl : true = r := by unfold alive.f at h; injection h
  clear h
  go_enter Try.func10, Try.ntmps10
  go_wp2_with fail
  refine (next_w w).mono ?_
  rintro e w1 ⟨A8, c8, A9, c9, rfl, hb1⟩
  have HB1 := Lib.hid hb1
  clear hb1
  go_wp2_with (first
    | (refine wpList_alloc_blk (o := ⟨some 1, _, _, _, _, _⟩) (by rfl) 27 (by rfl) _ w1.heap.size (by rfl) alloc_rec ?_)
    | (refine wpList_store_blk (o := ⟨none, _, _, _, _, _⟩) (by rfl) 27 (.tmp 1) (.tmp 5) (by rfl) w1.heap.size 27 _ (cells_ ⟨#[97, 110, 110]⟩ A8 c8 A9 c9) (by rfl) (by rfl) (Blk.new w1 27 _) (by rfl) (size_rec _ rfl) (one_rec _ _ _ _ _) ?_; intro w2 hK2 hg2 hz2; have HK2 := Lib.hid hK2; have HG2 := Lib.hid hg2; clear hK2 hg2 hz2)
    | (refine wpList_load_row (o := ⟨some 6, _, _, _, _, _⟩) (by rfl) 27 (.tmp 1) (by rfl) w1.heap.size (by rfl) 27 (cells_ ⟨#[97, 110, 110]⟩ A8 c8 A9 c9) (0, 0) _ HK2.out Try.underlying27 rfl (size_rec _ rfl) ?_)
    | (refine wpList_alloc_blk (o := ⟨some 2, _, _, _, _, _⟩) (by rfl) 27 (by rfl) _ w2.heap.size (by rfl) alloc_rec ?_)
    | (refine wpList_store_blk (o := ⟨none, _, _, _, _, _⟩) (by rfl) 27 (.tmp 2) (.tmp 6) (by rfl) w2.heap.size 27 _ (cells_ ⟨#[97, 110, 110]⟩ A8 c8 A9 c9) (by rfl) (by rfl) (Blk.new w2 27 _) (by rfl) (size_rec _ rfl) (one_rec _ _ _ _ _) ?_; intro w3 hK3 hg3 hz3; have HK3 := Lib.hid (And.intro ((HK2.out.alloc _).grown hg3 (fun e => by injection e with e; have := HK2.out.lt; omega)) hK3); have HB3 := Lib.hid ((((((HB1.out.alloc HB1.out.size _).grown HG2.out (by have := HB1.out.size; simp; omega) (fun k hk => by injection hk with hk; have := HB1.out.size; omega)).alloc (by have := HG2.out.size; have := HB1.out.size; simp at *; omega) _)).grown hg3 (by have := HG2.out.size; have := HB1.out.size; simp at *; omega) (fun k hk => by injection hk with hk; have := HG2.out.size; have := HB1.out.size; simp at *; omega))); have kc : w3.cell? ⟨w2.heap.size, 2, none⟩ = some (.string ⟨#[97, 110, 110]⟩) := hK3.cell 2; have kf := hK3.frozen 2; clear hK3 hg3 hz3)
    | (refine store_event (by rfl) (t := 9) (p := 7) (by rfl) (by rfl) (w1 := w3.setCell ⟨w2.heap.size, 2, none⟩ (.string ⟨#[98, 111, 98]⟩)) (by go_simp) ?_; intro w4 hw4; have HB4 := Lib.hid (show Below w.heap.size w w4 by rw [hw4]; exact HB3.out.setCell (by have := HG2.out.size; have := HB1.out.size; simp at *; omega) _); have HK4 := Lib.hid (show Blk w4 w1.heap.size 27 (cells_ ⟨#[97, 110, 110]⟩ A8 c8 A9 c9) ∧ Blk w4 w2.heap.size 27 (cells_ ⟨#[98, 111, 98]⟩ A8 c8 A9 c9) from by rw [hw4]; exact ⟨HK3.out.1.far (by have := HK2.out.lt; show w1.heap.size ≠ w2.heap.size; omega) _, HK3.out.2.set_ 2 _⟩); clear hw4 kc kf)
    | (refine wpList_load_row (o := ⟨some 8, _, _, _, _, _⟩) (by rfl) 27 (.tmp 1) (by rfl) w1.heap.size (by rfl) 27 (cells_ ⟨#[97, 110, 110]⟩ A8 c8 A9 c9) (0, 0) _ HK4.out.1 Try.underlying27 rfl (size_rec _ rfl) ?_)
    | (go_at_call 20; (with_reducible refine (digest_w _ A8 c8 A9 c9).mono ?_); rintro e w5 ⟨A, c, rfl, hlc, hC5, hb5⟩; have HK5 := Lib.hid (And.intro (HK4.out.1.after hb5) (HK4.out.2.after hb5)); have HB5 := Lib.hid (below_then HB4.out hb5); have HC5 := Lib.hid (And.intro hlc hC5); have k0 : w5.cell? ⟨w1.heap.size, 0, none⟩ = some (.int .u64 1) := HK5.out.1.cell 0; clear hlc hC5 hb5)
    | ((with_reducible refine gate_dst (N := 19) rfl ?_); (try (refine gate_guard (by rfl) ?_; dsimp only)); refine wpList_load_row (o := ⟨some 19, _, _, _, _, _⟩) (by rfl) 27 (.tmp 1) (by rfl) w1.heap.size (by rfl) 27 #[.int .u64 1, .int .u64 0, .string ⟨#[97, 110, 110]⟩, .int .i64 7, .string ⟨#[]⟩, .string ⟨#[]⟩, .int .u64 0, .int .i64 0, .slice A8 0 c8, .slice A9 0 c9] (0, 0) _ HK5.out.1 Try.underlying27 rfl (size_rec _ rfl) ?_)
    | fail)
  (with_reducible refine (verify_w verify_ann _ w5.heap.size A8 c8 A9 c9 (Blk.new w5 27 (cells_ ⟨#[97, 110, 110]⟩ A8 c8 A9 c9)) A c HC5.out.1 (Kd.C_below HC5.out.2 ((Below.refl _ _).alloc (Nat.le_refl _) _))).mono ?_)
  rintro e w7 ⟨rfl, hb7⟩
  have HK7 := Lib.hid ((HK5.out.2.alloc (.cells (cells_ ⟨#[97, 110, 110]⟩ A8 c8 A9 c9) 27)).after hb7)
  have HB7 := Lib.hid (below_then (HB5.out.alloc HB5.out.size (.cells (cells_ ⟨#[97, 110, 110]⟩ A8 c8 A9 c9) 27)) hb7)
  have HC7 := Lib.hid (Kd.C_below (Kd.C_below HC5.out.2 ((Below.refl _ _).alloc (Nat.le_refl _) (.cells (cells_ ⟨#[97, 110, 110]⟩ A8 c8 A9 c9) 27))) hb7)
  clear hb7 k0
  go_wp2_with (first
    | ((with_reducible refine gate_dst (N := 26) rfl ?_); (try (refine gate_guard (by rfl) ?_; dsimp only)); refine wpList_load_row (o := ⟨some 26, _, _, _, _, _⟩) (by rfl) 27 (.tmp 2) (by rfl) w2.heap.size (by rfl) 27 #[.int .u64 1, .int .u64 0, .string ⟨#[98, 111, 98]⟩, .int .i64 7, .string ⟨#[]⟩, .string ⟨#[]⟩, .int .u64 0, .int .i64 0, .slice A8 0 c8, .slice A9 0 c9] (0, 0) _ HK7.out Try.underlying27 rfl (size_rec _ rfl) ?_)
    | fail)
  (with_reducible refine (verify_w verify_bob _ w7.heap.size A8 c8 A9 c9 (Blk.new w7 27 (cells_ ⟨#[98, 111, 98]⟩ A8 c8 A9 c9)) A c HC5.out.1 (Kd.C_below HC7.out ((Below.refl _ _).alloc (Nat.le_refl _) _))).mono ?_)
  rintro e w9 ⟨rfl, hb9⟩
  have HB9 := Lib.hid (below_then (HB7.out.alloc HB7.out.size (.cells (cells_ ⟨#[98, 111, 98]⟩ A8 c8 A9 c9) 27)) hb9)
  clear hb9
  go_wp2_with fail
  go_ret
  exact ⟨rfl, HB9.out⟩
end Go.Proofs.Ytjnakhgpenafdaa
