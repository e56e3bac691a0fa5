/- Printed by a program of this session: each Go function as a plain Lean function, and a proof that the machine's call answers what that function answers (where it answers at all). -/
import Derived.Test.YtjnakhgpenafdaaP14x0
import Derived.Test.YtjnakhgpenafdaaGT
namespace Go.Proofs.Ytjnakhgpenafdaa.P14
open Go.RowKit Go.Proofs.YtjnakhgpenafdaaW.PrintWords Go.Proofs.YtjnakhgpenafdaaW.PrintLast Go.Proofs.YtjnakhgpenafdaaW.PrintMore
attribute [local go_sem] max2_int min2_int max_two min_two max_three min_three max_four min_four   -- for this text's walks alone
set_option linter.unusedVariables false
set_option linter.unusedSimpArgs false

/-! ### audit_Digest: function 20 -/
def audit_Digest.f (a0_0 : Int) (a0_1 : Int) (a0_2 : ByteArray) (a0_3 : Int) (a0_4 : ByteArray) (a0_5 : ByteArray) (a0_6 : Int) (a0_7 : Int) (l0_8 : List Int) (l0_9 : List Int) : Option (List Int) := (ashow.f a0_0 a0_1 a0_2 a0_3 a0_4 a0_5 a0_6 a0_7 l0_8 l0_9).bind fun t102 => ((dsha.f t102).bind fun t105 => (some t105))
set_option maxHeartbeats 8000000 in
set_option maxRecDepth 100000 in
theorem audit_Digest.calls (a0_0 : Int) (a0_1 : Int) (a0_2 : ByteArray) (a0_3 : Int) (a0_4 : ByteArray) (a0_5 : ByteArray) (a0_6 : Int) (a0_7 : Int) (A0_8 : Option Addr) (c0_8 : Nat) (l0_8 : List Int) (A0_9 : Option Addr) (c0_9 : Nat) (l0_9 : List Int) (r : List Int) (w : World) (hr0_8 : Kd.C (Kd.int .u8) w A0_8 l0_8.length l0_8) (hc0_8 : l0_8.length ≤ c0_8) (hr0_9 : Kd.C (Kd.int .u8) w A0_9 l0_9.length l0_9) (hc0_9 : l0_9.length ≤ c0_9) (h : audit_Digest.f a0_0 a0_1 a0_2 a0_3 a0_4 a0_5 a0_6 a0_7 l0_8 l0_9 = some r) :
    Calls Try.prog 20 #[.agg #[.int .u64 a0_0, .int .u64 a0_1, .string a0_2, .int .i64 a0_3, .string a0_4, .string a0_5, .int .u64 a0_6, .int .i64 a0_7, .slice A0_8 l0_8.length c0_8, .slice A0_9 l0_9.length c0_9]] w fun e w' => ∃ v0_ : Value, e = .returned (v0_) ∧ Kd.R (Kd.int .u8) 5 w' w.heap.size (fun _ => True) v0_ r ∧ Below w.heap.size w w' := by
  have hu27 := Try.underlying27
  have HR0_8 := Aside0.mk hr0_8
  have HC0_8 := Aside0.mk hc0_8
  clear hr0_8 hc0_8
  have HR0_9 := Aside0.mk hr0_9
  have HC0_9 := Aside0.mk hc0_9
  clear hr0_9 hc0_9
  have HB := Aside0.mk (Below.refl w.heap.size w)
  have H : ((ashow.f a0_0 a0_1 a0_2 a0_3 a0_4 a0_5 a0_6 a0_7 l0_8 l0_9).bind fun t102 => ((dsha.f t102).bind fun t105 => (some t105))) = some r := h
  clear h
  replace H := Option.bind_eq_some_iff.mp H
  obtain ⟨t102, A20, H⟩ := H
  replace H : ((dsha.f t102).bind fun t105 => (some t105)) = some r := H
  have A2 := Aside0.mk A20
  clear A20
  replace H := Option.bind_eq_some_iff.mp H
  obtain ⟨t105, A30, H⟩ := H
  replace H : (some t105) = some r := H
  have A3 := Aside0.mk A30
  clear A30
  obtain rfl := Option.some.inj H
  go_enter Try.func20, Try.ntmps20
  go_wp2_with (first | ((with_reducible refine gate_dst (N := 1) rfl ?_); refine box_event ?hg (N := 1) ?hd (cs := #[.int .u64 a0_0, .int .u64 a0_1, .string a0_2, .int .i64 a0_3, .string a0_4, .string a0_5, .int .u64 a0_6, .int .i64 a0_7, .slice A0_8 l0_8.length c0_8, .slice A0_9 l0_9.length c0_9]) (t := 27) ?hr ?_; (case hd => rfl); (case hg => rfl); (case hr => first | (go_simp; done) | (go_simp; rfl)); intro gb101 hg w4 hbox hb; have n0_ := Aside0.mk (below_step (by repeat (first | (with_reducible first | exact HB.out | apply below_alloc | apply pw_below_drewN | apply below_drew1) | exact HB.out)) hb); have n1_ := Aside0.mk (hbox); have n2_ := Aside0.mk ((by rw [hg]; exact (below_size (by repeat (first | (with_reducible first | exact HB.out | apply below_alloc | apply pw_below_drewN | apply below_drew1) | exact HB.out))) : w.heap.size ≤ gb101)); have n3_ := Aside0.mk ((by rw [hg]; exact (below_size (by repeat (first | (with_reducible first | exact HB.out | apply below_alloc | apply pw_below_drewN | apply below_drew1) | exact HB.out))) : w.heap.size ≤ gb101)); clear HB; have HB := n0_; have BK101 := n1_; have GW101 := n2_; have GE101 := n3_; clear n0_ n1_ n2_ n3_; clear hb hbox hg; have hcz5_0 : w4.cell? ⟨gb101, 0, none⟩ = some (.int .u64 a0_0) := (blk_cell BK101.out 0).trans rfl; have hcz5_1 : w4.cell? ⟨gb101, 1, none⟩ = some (.int .u64 a0_1) := (blk_cell BK101.out 1).trans rfl; have hcz5_2 : w4.cell? ⟨gb101, 2, none⟩ = some (.string a0_2) := (blk_cell BK101.out 2).trans rfl; have hcz5_3 : w4.cell? ⟨gb101, 3, none⟩ = some (.int .i64 a0_3) := (blk_cell BK101.out 3).trans rfl; have hcz5_4 : w4.cell? ⟨gb101, 4, none⟩ = some (.string a0_4) := (blk_cell BK101.out 4).trans rfl; have hcz5_5 : w4.cell? ⟨gb101, 5, none⟩ = some (.string a0_5) := (blk_cell BK101.out 5).trans rfl; have hcz5_6 : w4.cell? ⟨gb101, 6, none⟩ = some (.int .u64 a0_6) := (blk_cell BK101.out 6).trans rfl; have hcz5_7 : w4.cell? ⟨gb101, 7, none⟩ = some (.int .i64 a0_7) := (blk_cell BK101.out 7).trans rfl; have hcz5_8 : w4.cell? ⟨gb101, 8, none⟩ = some (.slice A0_8 l0_8.length c0_8) := (blk_cell BK101.out 8).trans rfl; have hcz5_9 : w4.cell? ⟨gb101, 9, none⟩ = some (.slice A0_9 l0_9.length c0_9) := (blk_cell BK101.out 9).trans rfl; have hfz5_0 := blk_frozen BK101.out 0; have hfz5_1 := blk_frozen BK101.out 1; have hfz5_2 := blk_frozen BK101.out 2; have hfz5_3 := blk_frozen BK101.out 3; have hfz5_4 := blk_frozen BK101.out 4; have hfz5_5 := blk_frozen BK101.out 5; have hfz5_6 := blk_frozen BK101.out 6; have hfz5_7 := blk_frozen BK101.out 7; have hfz5_8 := blk_frozen BK101.out 8; have hfz5_9 := blk_frozen BK101.out 9) | ((with_reducible refine gate_callee (f := 18) rfl ?_); refine goesL_ (some 4) rfl rfl Try.func18 (by kernel_rfl) rfl #[.agg #[.int .u64 a0_0, .int .u64 a0_1, .string a0_2, .int .i64 a0_3, .string a0_4, .string a0_5, .int .u64 a0_6, .int .i64 a0_7, .slice A0_8 l0_8.length c0_8, .slice A0_9 l0_9.length c0_9]] rfl (by (try simp only [List.map_toArray, List.map_cons, List.map_nil]); first | done | rfl | (simp only [List.length_drop, List.length_take]; rfl)) ?_; (with_reducible refine (ashow.calls a0_0 a0_1 a0_2 a0_3 a0_4 a0_5 a0_6 a0_7 _ _ l0_8 _ _ l0_9 t102 _ ?side1 ?side2 ?side3 ?side4 A2.out).mono ?_); (case side1 => repeat (first | exact (Kd.C_below HR0_8.out HB.out) | (with_reducible refine Kd.C_alloc ?_ _) | (with_reducible refine Kd.C_drewN ?_ _) | (with_reducible refine Kd.C_drew ?_))); (case side2 => exact HC0_8.out); (case side3 => repeat (first | exact (Kd.C_below HR0_9.out HB.out) | (with_reducible refine Kd.C_alloc ?_ _) | (with_reducible refine Kd.C_drewN ?_ _) | (with_reducible refine Kd.C_drew ?_))); (case side4 => exact HC0_9.out); rintro e w6 ⟨v103, rfl, ho0, hb⟩; refine ⟨_, rfl, ?_⟩; have n0_ := Aside0.mk (Kd.R_lower ho0 (below_size (by repeat (first | (with_reducible first | exact HB.out | apply below_alloc | apply pw_below_drewN | apply below_drew1 | refine below_set ?_ GE101.out) | exact HB.out)))); have n1_ := Aside0.mk (blk_below (g := gb101) (o := .cells #[.int .u64 a0_0, .int .u64 a0_1, .string a0_2, .int .i64 a0_3, .string a0_4, .string a0_5, .int .u64 a0_6, .int .i64 a0_7, .slice A0_8 l0_8.length c0_8, .slice A0_9 l0_9.length c0_9] 27 (0, 0)) (by (with_reducible repeat (first | refine blk_drewN ?_ _ | refine blk_drew ?_ | refine blk_alloc ?_ _)); exact BK101.out) hb); have n2_ := Aside0.mk (below_step (by repeat (first | (with_reducible first | exact HB.out | apply below_alloc | apply pw_below_drewN | apply below_drew1 | refine below_set ?_ GE101.out) | exact HB.out)) hb); clear BK101; clear HB; have HO104 := n0_; have BK101 := n1_; have HB := n2_; clear n0_ n1_ n2_; (try clear hb); (try clear hb2); (try clear hk); (try clear hi); (try clear ho0); obtain ⟨Ao7, co7, eo7⟩ := Kd.R_slice HO104.out; subst eo7) | ((with_reducible refine gate_callee (f := 35) rfl ?_); refine goesL_ (some 5) rfl rfl Try.func35 (by kernel_rfl) rfl #[.slice Ao7 t102.length co7] rfl (by (try simp only [List.map_toArray, List.map_cons, List.map_nil]); first | done | rfl | (simp only [List.length_drop, List.length_take]; rfl)) ?_; (with_reducible refine (dsha.calls _ _ t102 t105 _ ?side1 ?side2 A3.out).mono ?_); (case side1 => repeat (first | exact (Kd.R_reads' HO104.out).2.2 | (with_reducible refine Kd.C_alloc ?_ _) | (with_reducible refine Kd.C_drewN ?_ _) | (with_reducible refine Kd.C_drew ?_))); (case side2 => exact (Kd.R_reads' HO104.out).2.1); rintro e w8 ⟨v106, rfl, ho0, hb⟩; refine ⟨_, rfl, ?_⟩; have n0_ := Aside0.mk (Kd.R_elder' (by (with_reducible repeat (first | apply Kd.R_alloc | apply Kd.R_drewN | apply Kd.R_drew)); exact HO104.out) (Kd.R_base ho0) hb); have n1_ := Aside0.mk (Kd.R_lower (Kd.R_new' ho0 (Kd.R_lt (by (with_reducible repeat (first | apply Kd.R_alloc | apply Kd.R_drewN | apply Kd.R_drew)); exact HO104.out))) (below_size (by repeat (first | (with_reducible first | exact HB.out | apply below_alloc | apply pw_below_drewN | apply below_drew1 | refine below_set ?_ GE101.out) | exact HB.out)))); have n2_ := Aside0.mk (blk_below (g := gb101) (o := .cells #[.int .u64 a0_0, .int .u64 a0_1, .string a0_2, .int .i64 a0_3, .string a0_4, .string a0_5, .int .u64 a0_6, .int .i64 a0_7, .slice A0_8 l0_8.length c0_8, .slice A0_9 l0_9.length c0_9] 27 (0, 0)) (by (with_reducible repeat (first | refine blk_drewN ?_ _ | refine blk_drew ?_ | refine blk_alloc ?_ _)); exact BK101.out) hb); have n3_ := Aside0.mk (below_step (by repeat (first | (with_reducible first | exact HB.out | apply below_alloc | apply pw_below_drewN | apply below_drew1 | refine below_set ?_ GE101.out) | exact HB.out)) hb); clear HO104; clear BK101; clear HB; have HO104 := n0_; have HO107 := n1_; have BK101 := n2_; have HB := n3_; clear n0_ n1_ n2_ n3_; (try clear hb); (try clear hb2); (try clear hk); (try clear hi); (try clear ho0)))
  go_ret
  exact ⟨_, by first | rfl | (simp [errW_none, errW_some] <;> rfl) | (simp [*, errW_none, errW_some] <;> rfl), by (with_reducible repeat (first | apply Kd.R_alloc | apply Kd.R_drewN | apply Kd.R_drew)); exact Kd.R_mono HO107.out (fun _ hk => trivial), by repeat (first | (with_reducible first | exact HB.out | apply below_alloc | apply pw_below_drewN | apply below_drew1 | refine below_set ?_ GE101.out) | exact HB.out)⟩

/-! ### audit_Next: function 26 -/
def audit_Next.f (l0 : List (S27)) (a1_0 : Int) (a1_1 : Int) (a1_2 : ByteArray) (a1_3 : Int) (a1_4 : ByteArray) (a1_5 : ByteArray) (a1_6 : Int) (a1_7 : Int) (l1_8 : List Int) (l1_9 : List Int) : Option (Int × Int × ByteArray × Int × ByteArray × ByteArray × Int × Int × List Int × List Int) := (clone.f l1_8).bind fun t110 => (if (l0.length : Int) = 0 then (some (1, a1_1, a1_2, a1_3, a1_4, a1_5, a1_6, a1_7, t110, ([] : List Int))) else (if 0 ≤ (wrap64 ((l0.length : Int) - 1)) then (if (wrap64 ((l0.length : Int) - 1)) < (l0.length : Int) then ((audit_Digest.f ((rd_T27 l0 (wrap64 ((l0.length : Int) - 1))).f0) ((rd_T27 l0 (wrap64 ((l0.length : Int) - 1))).f1) ((rd_T27 l0 (wrap64 ((l0.length : Int) - 1))).f2) ((rd_T27 l0 (wrap64 ((l0.length : Int) - 1))).f3) ((rd_T27 l0 (wrap64 ((l0.length : Int) - 1))).f4) ((rd_T27 l0 (wrap64 ((l0.length : Int) - 1))).f5) ((rd_T27 l0 (wrap64 ((l0.length : Int) - 1))).f6) ((rd_T27 l0 (wrap64 ((l0.length : Int) - 1))).f7) ((rd_T27 l0 (wrap64 ((l0.length : Int) - 1))).f8) ((rd_T27 l0 (wrap64 ((l0.length : Int) - 1))).f9)).bind fun t115 => (some (IntKind.u64.wrap (((rd_T27 l0 (wrap64 ((l0.length : Int) - 1))).f0) + 1), a1_1, a1_2, a1_3, a1_4, a1_5, a1_6, a1_7, t110, t115))) else (none)) else (none)))
def audit_Next.T6 : Bool × List (List Nat × List Nat) := (true, [([], []), ([0], [0]), ([1], [1]), ([], []), ([3], [3]), ([0, 1, 2], []), ([5, 2, 4, 0, 1, 2], [2, 5]), ([0, 1, 2, 3, 4, 5, 6], []), ([7, 4, 6, 0, 1, 2, 3, 4, 5, 6], [4, 7])])
def audit_Next.B6 : List Nat := [0, 1, 3, 0, 8, 7, 63, 127, 255]
theorem audit_Next.tab6 : rtab .any (opsOf Try.f26 6) = audit_Next.T6 := by kernel_rfl
theorem audit_Next.bits6 : waitsOk audit_Next.T6.2 audit_Next.B6 = true := by kernel_rfl
set_option maxHeartbeats 8000000 in
set_option maxRecDepth 100000 in
theorem audit_Next.calls (A0 : Option Addr) (c0 : Nat) (l0 : List (S27)) (a1_0 : Int) (a1_1 : Int) (a1_2 : ByteArray) (a1_3 : Int) (a1_4 : ByteArray) (a1_5 : ByteArray) (a1_6 : Int) (a1_7 : Int) (A1_8 : Option Addr) (c1_8 : Nat) (l1_8 : List Int) (A1_9 : Option Addr) (c1_9 : Nat) (l1_9 : List Int) (r1 : Int) (r2 : Int) (r3 : ByteArray) (r4 : Int) (r5 : ByteArray) (r6 : ByteArray) (r7 : Int) (r8 : Int) (r9 : List Int) (r10 : List Int) (w : World) (hr0 : Kd.C k27 w A0 l0.length l0) (hc0 : l0.length ≤ c0) (hr1_8 : Kd.C (Kd.int .u8) w A1_8 l1_8.length l1_8) (hc1_8 : l1_8.length ≤ c1_8) (hr1_9 : Kd.C (Kd.int .u8) w A1_9 l1_9.length l1_9) (hc1_9 : l1_9.length ≤ c1_9) (h : audit_Next.f l0 a1_0 a1_1 a1_2 a1_3 a1_4 a1_5 a1_6 a1_7 l1_8 l1_9 = some (r1, r2, r3, r4, r5, r6, r7, r8, r9, r10)) :
    Calls Try.prog 26 #[.slice A0 l0.length c0, .agg #[.int .u64 a1_0, .int .u64 a1_1, .string a1_2, .int .i64 a1_3, .string a1_4, .string a1_5, .int .u64 a1_6, .int .i64 a1_7, .slice A1_8 l1_8.length c1_8, .slice A1_9 l1_9.length c1_9]] w fun e w' => ∃ v8_ v9_ : Value, e = .returned (.agg #[.int .u64 r1, .int .u64 r2, .string r3, .int .i64 r4, .string r5, .string r6, .int .u64 r7, .int .i64 r8, v8_, v9_]) ∧ Kd.R (Kd.int .u8) 5 w' w.heap.size (fun k_ => some k_ ≠ (v9_ : Value).ownBlock) v8_ r9 ∧ Kd.R (Kd.int .u8) 5 w' w.heap.size (fun k_ => some k_ ≠ (v8_ : Value).ownBlock) v9_ r10 ∧ Below w.heap.size w w' := by
  have hu27 := Try.underlying27
  have HR0 := Aside0.mk hr0
  have HC0 := Aside0.mk hc0
  clear hr0 hc0
  have HR1_8 := Aside0.mk hr1_8
  have HC1_8 := Aside0.mk hc1_8
  clear hr1_8 hc1_8
  have HR1_9 := Aside0.mk hr1_9
  have HC1_9 := Aside0.mk hc1_9
  clear hr1_9 hc1_9
  have HB := Aside0.mk (Below.refl w.heap.size w)
  have H : ((clone.f l1_8).bind fun t110 => (if (l0.length : Int) = 0 then (some (1, a1_1, a1_2, a1_3, a1_4, a1_5, a1_6, a1_7, t110, ([] : List Int))) else (if 0 ≤ (wrap64 ((l0.length : Int) - 1)) then (if (wrap64 ((l0.length : Int) - 1)) < (l0.length : Int) then ((audit_Digest.f ((rd_T27 l0 (wrap64 ((l0.length : Int) - 1))).f0) ((rd_T27 l0 (wrap64 ((l0.length : Int) - 1))).f1) ((rd_T27 l0 (wrap64 ((l0.length : Int) - 1))).f2) ((rd_T27 l0 (wrap64 ((l0.length : Int) - 1))).f3) ((rd_T27 l0 (wrap64 ((l0.length : Int) - 1))).f4) ((rd_T27 l0 (wrap64 ((l0.length : Int) - 1))).f5) ((rd_T27 l0 (wrap64 ((l0.length : Int) - 1))).f6) ((rd_T27 l0 (wrap64 ((l0.length : Int) - 1))).f7) ((rd_T27 l0 (wrap64 ((l0.length : Int) - 1))).f8) ((rd_T27 l0 (wrap64 ((l0.length : Int) - 1))).f9)).bind fun t115 => (some (IntKind.u64.wrap (((rd_T27 l0 (wrap64 ((l0.length : Int) - 1))).f0) + 1), a1_1, a1_2, a1_3, a1_4, a1_5, a1_6, a1_7, t110, t115))) else (none)) else (none)))) = some (r1, r2, r3, r4, r5, r6, r7, r8, r9, r10) := h
  clear h
  replace H := Option.bind_eq_some_iff.mp H
  obtain ⟨t110, A30, H⟩ := H
  replace H : (if (l0.length : Int) = 0 then (some (1, a1_1, a1_2, a1_3, a1_4, a1_5, a1_6, a1_7, t110, ([] : List Int))) else (if 0 ≤ (wrap64 ((l0.length : Int) - 1)) then (if (wrap64 ((l0.length : Int) - 1)) < (l0.length : Int) then ((audit_Digest.f ((rd_T27 l0 (wrap64 ((l0.length : Int) - 1))).f0) ((rd_T27 l0 (wrap64 ((l0.length : Int) - 1))).f1) ((rd_T27 l0 (wrap64 ((l0.length : Int) - 1))).f2) ((rd_T27 l0 (wrap64 ((l0.length : Int) - 1))).f3) ((rd_T27 l0 (wrap64 ((l0.length : Int) - 1))).f4) ((rd_T27 l0 (wrap64 ((l0.length : Int) - 1))).f5) ((rd_T27 l0 (wrap64 ((l0.length : Int) - 1))).f6) ((rd_T27 l0 (wrap64 ((l0.length : Int) - 1))).f7) ((rd_T27 l0 (wrap64 ((l0.length : Int) - 1))).f8) ((rd_T27 l0 (wrap64 ((l0.length : Int) - 1))).f9)).bind fun t115 => (some (IntKind.u64.wrap (((rd_T27 l0 (wrap64 ((l0.length : Int) - 1))).f0) + 1), a1_1, a1_2, a1_3, a1_4, a1_5, a1_6, a1_7, t110, t115))) else (none)) else (none))) = some (r1, r2, r3, r4, r5, r6, r7, r8, r9, r10) := H
  have A3 := Aside0.mk A30
  clear A30
  by_cases c4 : (l0.length : Int) = 0
  · rw [if_pos c4] at H
    have c4b0 : ((l0.length : Int) == 0) = true := beq_iff_eq.mpr c4
    have c4b1 : ((l0.length : Int) != 0) = false := bne_eq_false_iff_eq.mpr c4
    clear c4
    simp only [Option.some.injEq, Prod.mk.injEq] at H
    obtain ⟨rfl, rfl, rfl, rfl, rfl, rfl, rfl, rfl, rfl, rfl⟩ := H
    go_enter Try.func26, Try.ntmps26
    go_wp2_with (first | ((with_reducible refine gate_dst (N := 3) rfl ?_); refine box_event ?hg (N := 3) ?hd (cs := #[.int .u64 a1_0, .int .u64 a1_1, .string a1_2, .int .i64 a1_3, .string a1_4, .string a1_5, .int .u64 a1_6, .int .i64 a1_7, .slice A1_8 l1_8.length c1_8, .slice A1_9 l1_9.length c1_9]) (t := 27) ?hr ?_; (case hd => rfl); (case hg => rfl); (case hr => first | (go_simp; done) | (go_simp; rfl)); intro gb108 hg w5 hbox hb; have n0_ := Aside0.mk (below_step (by repeat (first | (with_reducible first | exact HB.out | apply below_alloc | apply pw_below_drewN | apply below_drew1) | exact HB.out)) hb); have n1_ := Aside0.mk (hbox); have n2_ := Aside0.mk ((by rw [hg]; exact (below_size (by repeat (first | (with_reducible first | exact HB.out | apply below_alloc | apply pw_below_drewN | apply below_drew1) | exact HB.out))) : w.heap.size ≤ gb108)); have n3_ := Aside0.mk ((by rw [hg]; exact (below_size (by repeat (first | (with_reducible first | exact HB.out | apply below_alloc | apply pw_below_drewN | apply below_drew1) | exact HB.out))) : w.heap.size ≤ gb108)); clear HB; have HB := n0_; have BK108 := n1_; have GW108 := n2_; have GE108 := n3_; clear n0_ n1_ n2_ n3_; clear hb hbox hg) | ((with_reducible refine gate_dst (N := 4) rfl ?_); refine box_event ?hg (N := 4) ?hd (cs := #[.int .u64 0, .int .u64 0, .string (⟨#[]⟩ : ByteArray), .int .i64 0, .string (⟨#[]⟩ : ByteArray), .string (⟨#[]⟩ : ByteArray), .int .u64 0, .int .i64 0, .slice none 0 0, .slice none 0 0]) (t := 27) ?hr ?_; (case hd => rfl); (case hg => rfl); (case hr => first | (go_simp; done) | (go_simp; rfl)); intro gb109 hg w6 hbox hb; have n0_ := Aside0.mk (blk_below (g := gb108) (o := .cells #[.int .u64 a1_0, .int .u64 a1_1, .string a1_2, .int .i64 a1_3, .string a1_4, .string a1_5, .int .u64 a1_6, .int .i64 a1_7, .slice A1_8 l1_8.length c1_8, .slice A1_9 l1_9.length c1_9] 27 (0, 0)) (by (with_reducible repeat (first | refine blk_drewN ?_ _ | refine blk_drew ?_ | refine blk_alloc ?_ _)); exact BK108.out) hb); have n1_ := Aside0.mk (below_step (by repeat (first | (with_reducible first | exact HB.out | apply below_alloc | apply pw_below_drewN | apply below_drew1 | refine below_set ?_ GE108.out) | exact HB.out)) hb); have n2_ := Aside0.mk (hbox); have n3_ := Aside0.mk ((by rw [hg]; exact (below_size (by repeat (first | (with_reducible first | exact HB.out | apply below_alloc | apply pw_below_drewN | apply below_drew1 | refine below_set ?_ GE108.out) | exact HB.out))) : w.heap.size ≤ gb109)); have n4_ := Aside0.mk ((by rw [hg]; exact (below_size (by repeat (first | (with_reducible first | exact HB.out | apply below_alloc | apply pw_below_drewN | apply below_drew1 | refine below_set ?_ GE108.out) | exact HB.out))) : w.heap.size ≤ gb109)); have n5_ := Aside0.mk ((by rw [hg]; exact Nat.ne_of_lt (blk_lt (g := gb108) (o := .cells #[.int .u64 a1_0, .int .u64 a1_1, .string a1_2, .int .i64 a1_3, .string a1_4, .string a1_5, .int .u64 a1_6, .int .i64 a1_7, .slice A1_8 l1_8.length c1_8, .slice A1_9 l1_9.length c1_9] 27 (0, 0)) (by (with_reducible repeat (first | refine blk_drewN ?_ _ | refine blk_drew ?_ | refine blk_alloc ?_ _)); exact BK108.out)) : gb108 ≠ gb109)); have n6_ := Aside0.mk ((by rw [hg]; exact Nat.ne_of_gt (blk_lt (g := gb108) (o := .cells #[.int .u64 a1_0, .int .u64 a1_1, .string a1_2, .int .i64 a1_3, .string a1_4, .string a1_5, .int .u64 a1_6, .int .i64 a1_7, .slice A1_8 l1_8.length c1_8, .slice A1_9 l1_9.length c1_9] 27 (0, 0)) (by (with_reducible repeat (first | refine blk_drewN ?_ _ | refine blk_drew ?_ | refine blk_alloc ?_ _)); exact BK108.out)) : gb109 ≠ gb108)); clear BK108; clear HB; have BK108 := n0_; have HB := n1_; have BK109 := n2_; have GW109 := n3_; have GE109 := n4_; have NB108_109 := n5_; have NB109_108 := n6_; clear n0_ n1_ n2_ n3_ n4_ n5_ n6_; clear hb hbox hg; have hnb7 := NB108_109.out; have hnc7 := NB109_108.out; have hcz8_0 : w6.cell? ⟨gb108, 0, none⟩ = some (.int .u64 a1_0) := (blk_cell BK108.out 0).trans rfl; have hcz8_1 : w6.cell? ⟨gb108, 1, none⟩ = some (.int .u64 a1_1) := (blk_cell BK108.out 1).trans rfl; have hcz8_2 : w6.cell? ⟨gb108, 2, none⟩ = some (.string a1_2) := (blk_cell BK108.out 2).trans rfl; have hcz8_3 : w6.cell? ⟨gb108, 3, none⟩ = some (.int .i64 a1_3) := (blk_cell BK108.out 3).trans rfl; have hcz8_4 : w6.cell? ⟨gb108, 4, none⟩ = some (.string a1_4) := (blk_cell BK108.out 4).trans rfl; have hcz8_5 : w6.cell? ⟨gb108, 5, none⟩ = some (.string a1_5) := (blk_cell BK108.out 5).trans rfl; have hcz8_6 : w6.cell? ⟨gb108, 6, none⟩ = some (.int .u64 a1_6) := (blk_cell BK108.out 6).trans rfl; have hcz8_7 : w6.cell? ⟨gb108, 7, none⟩ = some (.int .i64 a1_7) := (blk_cell BK108.out 7).trans rfl; have hcz8_8 : w6.cell? ⟨gb108, 8, none⟩ = some (.slice A1_8 l1_8.length c1_8) := (blk_cell BK108.out 8).trans rfl; have hcz8_9 : w6.cell? ⟨gb108, 9, none⟩ = some (.slice A1_9 l1_9.length c1_9) := (blk_cell BK108.out 9).trans rfl; have hfz8_0 := blk_frozen BK108.out 0; have hfz8_1 := blk_frozen BK108.out 1; have hfz8_2 := blk_frozen BK108.out 2; have hfz8_3 := blk_frozen BK108.out 3; have hfz8_4 := blk_frozen BK108.out 4; have hfz8_5 := blk_frozen BK108.out 5; have hfz8_6 := blk_frozen BK108.out 6; have hfz8_7 := blk_frozen BK108.out 7; have hfz8_8 := blk_frozen BK108.out 8; have hfz8_9 := blk_frozen BK108.out 9) | ((with_reducible refine gate_callee (f := 50) rfl ?_); refine goesL_ (some 8) rfl rfl Try.func50 (by kernel_rfl) rfl #[.slice A1_8 l1_8.length c1_8] rfl (by (try simp only [List.map_toArray, List.map_cons, List.map_nil]); first | done | rfl | (simp only [List.length_drop, List.length_take]; rfl)) ?_; (with_reducible refine (clone.calls _ _ l1_8 t110 _ ?side1 ?side2 A3.out).mono ?_); (case side1 => repeat (first | exact (Kd.C_below HR1_8.out HB.out) | (with_reducible refine Kd.C_alloc ?_ _) | (with_reducible refine Kd.C_drewN ?_ _) | (with_reducible refine Kd.C_drew ?_))); (case side2 => exact HC1_8.out); rintro e w9 ⟨v111, rfl, ho0, hb⟩; refine ⟨_, rfl, ?_⟩; have n0_ := Aside0.mk (Kd.R_lower ho0 (below_size (by repeat (first | (with_reducible first | exact HB.out | apply below_alloc | apply pw_below_drewN | apply below_drew1 | refine below_set ?_ GE108.out | refine below_set ?_ GE109.out) | exact HB.out)))); have n1_ := Aside0.mk (blk_below (g := gb108) (o := .cells #[.int .u64 a1_0, .int .u64 a1_1, .string a1_2, .int .i64 a1_3, .string a1_4, .string a1_5, .int .u64 a1_6, .int .i64 a1_7, .slice A1_8 l1_8.length c1_8, .slice A1_9 l1_9.length c1_9] 27 (0, 0)) (by (with_reducible repeat (first | refine blk_drewN ?_ _ | refine blk_drew ?_ | refine blk_alloc ?_ _)); exact BK108.out) hb); have n2_ := Aside0.mk (blk_below (g := gb109) (o := .cells #[.int .u64 0, .int .u64 0, .string (⟨#[]⟩ : ByteArray), .int .i64 0, .string (⟨#[]⟩ : ByteArray), .string (⟨#[]⟩ : ByteArray), .int .u64 0, .int .i64 0, .slice none 0 0, .slice none 0 0] 27 (0, 0)) (by (with_reducible repeat (first | refine blk_drewN ?_ _ | refine blk_drew ?_ | refine blk_alloc ?_ _)); exact BK109.out) hb); have n3_ := Aside0.mk (below_step (by repeat (first | (with_reducible first | exact HB.out | apply below_alloc | apply pw_below_drewN | apply below_drew1 | refine below_set ?_ GE108.out | refine below_set ?_ GE109.out) | exact HB.out)) hb); clear BK108; clear BK109; clear HB; have HO112 := n0_; have BK108 := n1_; have BK109 := n2_; have HB := n3_; clear n0_ n1_ n2_ n3_; (try clear hb); (try clear hb2); (try clear hk); (try clear hi); (try clear ho0); obtain ⟨Ao10, co10, eo10⟩ := Kd.R_slice HO112.out; subst eo10; have hcz11_0 : w9.cell? ⟨gb108, 0, none⟩ = some (.int .u64 a1_0) := (blk_cell BK108.out 0).trans rfl; have hcz11_1 : w9.cell? ⟨gb108, 1, none⟩ = some (.int .u64 a1_1) := (blk_cell BK108.out 1).trans rfl; have hcz11_2 : w9.cell? ⟨gb108, 2, none⟩ = some (.string a1_2) := (blk_cell BK108.out 2).trans rfl; have hcz11_3 : w9.cell? ⟨gb108, 3, none⟩ = some (.int .i64 a1_3) := (blk_cell BK108.out 3).trans rfl; have hcz11_4 : w9.cell? ⟨gb108, 4, none⟩ = some (.string a1_4) := (blk_cell BK108.out 4).trans rfl; have hcz11_5 : w9.cell? ⟨gb108, 5, none⟩ = some (.string a1_5) := (blk_cell BK108.out 5).trans rfl; have hcz11_6 : w9.cell? ⟨gb108, 6, none⟩ = some (.int .u64 a1_6) := (blk_cell BK108.out 6).trans rfl; have hcz11_7 : w9.cell? ⟨gb108, 7, none⟩ = some (.int .i64 a1_7) := (blk_cell BK108.out 7).trans rfl; have hcz11_8 : w9.cell? ⟨gb108, 8, none⟩ = some (.slice A1_8 l1_8.length c1_8) := (blk_cell BK108.out 8).trans rfl; have hcz11_9 : w9.cell? ⟨gb108, 9, none⟩ = some (.slice A1_9 l1_9.length c1_9) := (blk_cell BK108.out 9).trans rfl; have hfz11_0 := blk_frozen BK108.out 0; have hfz11_1 := blk_frozen BK108.out 1; have hfz11_2 := blk_frozen BK108.out 2; have hfz11_3 := blk_frozen BK108.out 3; have hfz11_4 := blk_frozen BK108.out 4; have hfz11_5 := blk_frozen BK108.out 5; have hfz11_6 := blk_frozen BK108.out 6; have hfz11_7 := blk_frozen BK108.out 7; have hfz11_8 := blk_frozen BK108.out 8; have hfz11_9 := blk_frozen BK108.out 9; have hcz12_0 : w9.cell? ⟨gb109, 0, none⟩ = some (.int .u64 0) := (blk_cell BK109.out 0).trans rfl; have hcz12_1 : w9.cell? ⟨gb109, 1, none⟩ = some (.int .u64 0) := (blk_cell BK109.out 1).trans rfl; have hcz12_2 : w9.cell? ⟨gb109, 2, none⟩ = some (.string (⟨#[]⟩ : ByteArray)) := (blk_cell BK109.out 2).trans rfl; have hcz12_3 : w9.cell? ⟨gb109, 3, none⟩ = some (.int .i64 0) := (blk_cell BK109.out 3).trans rfl; have hcz12_4 : w9.cell? ⟨gb109, 4, none⟩ = some (.string (⟨#[]⟩ : ByteArray)) := (blk_cell BK109.out 4).trans rfl; have hcz12_5 : w9.cell? ⟨gb109, 5, none⟩ = some (.string (⟨#[]⟩ : ByteArray)) := (blk_cell BK109.out 5).trans rfl; have hcz12_6 : w9.cell? ⟨gb109, 6, none⟩ = some (.int .u64 0) := (blk_cell BK109.out 6).trans rfl; have hcz12_7 : w9.cell? ⟨gb109, 7, none⟩ = some (.int .i64 0) := (blk_cell BK109.out 7).trans rfl; have hcz12_8 : w9.cell? ⟨gb109, 8, none⟩ = some (.slice none 0 0) := (blk_cell BK109.out 8).trans rfl; have hcz12_9 : w9.cell? ⟨gb109, 9, none⟩ = some (.slice none 0 0) := (blk_cell BK109.out 9).trans rfl; have hfz12_0 := blk_frozen BK109.out 0; have hfz12_1 := blk_frozen BK109.out 1; have hfz12_2 := blk_frozen BK109.out 2; have hfz12_3 := blk_frozen BK109.out 3; have hfz12_4 := blk_frozen BK109.out 4; have hfz12_5 := blk_frozen BK109.out 5; have hfz12_6 := blk_frozen BK109.out 6; have hfz12_7 := blk_frozen BK109.out 7; have hfz12_8 := blk_frozen BK109.out 8; have hfz12_9 := blk_frozen BK109.out 9))
    refine bodyPost_ret (results_cell_row rfl _ _ gb109 27 #[.int .u64 1, .int .u64 a1_1, .string a1_2, .int .i64 a1_3, .string a1_4, .string a1_5, .int .u64 a1_6, .int .i64 a1_7, .slice Ao10 t110.length co10, .slice none 0 0] (0, 0) _ rfl (by (with_reducible repeat (first | refine blk_drewN ?_ _ | refine blk_drew ?_ | refine blk_alloc ?_ _)); refine blk_put (cs := #[.int .u64 1, .int .u64 a1_1, .string a1_2, .int .i64 a1_3, .string a1_4, .string a1_5, .int .u64 a1_6, .int .i64 a1_7, .slice Ao10 t110.length co10, .slice none 0 0]) ?_ 9 _ rfl; (with_reducible repeat (first | refine blk_drewN ?_ _ | refine blk_drew ?_ | refine blk_alloc ?_ _)); refine blk_put (cs := #[.int .u64 1, .int .u64 a1_1, .string a1_2, .int .i64 a1_3, .string a1_4, .string a1_5, .int .u64 a1_6, .int .i64 a1_7, .slice none 0 0, .slice none 0 0]) ?_ 8 _ rfl; (with_reducible repeat (first | refine blk_drewN ?_ _ | refine blk_drew ?_ | refine blk_alloc ?_ _)); refine blk_put (cs := #[.int .u64 1, .int .u64 a1_1, .string a1_2, .int .i64 a1_3, .string a1_4, .string a1_5, .int .u64 a1_6, .int .i64 0, .slice none 0 0, .slice none 0 0]) ?_ 7 _ rfl; (with_reducible repeat (first | refine blk_drewN ?_ _ | refine blk_drew ?_ | refine blk_alloc ?_ _)); refine blk_put (cs := #[.int .u64 1, .int .u64 a1_1, .string a1_2, .int .i64 a1_3, .string a1_4, .string a1_5, .int .u64 0, .int .i64 0, .slice none 0 0, .slice none 0 0]) ?_ 6 _ rfl; (with_reducible repeat (first | refine blk_drewN ?_ _ | refine blk_drew ?_ | refine blk_alloc ?_ _)); refine blk_put (cs := #[.int .u64 1, .int .u64 a1_1, .string a1_2, .int .i64 a1_3, .string a1_4, .string (⟨#[]⟩ : ByteArray), .int .u64 0, .int .i64 0, .slice none 0 0, .slice none 0 0]) ?_ 5 _ rfl; (with_reducible repeat (first | refine blk_drewN ?_ _ | refine blk_drew ?_ | refine blk_alloc ?_ _)); refine blk_put (cs := #[.int .u64 1, .int .u64 a1_1, .string a1_2, .int .i64 a1_3, .string (⟨#[]⟩ : ByteArray), .string (⟨#[]⟩ : ByteArray), .int .u64 0, .int .i64 0, .slice none 0 0, .slice none 0 0]) ?_ 4 _ rfl; (with_reducible repeat (first | refine blk_drewN ?_ _ | refine blk_drew ?_ | refine blk_alloc ?_ _)); refine blk_put (cs := #[.int .u64 1, .int .u64 a1_1, .string a1_2, .int .i64 0, .string (⟨#[]⟩ : ByteArray), .string (⟨#[]⟩ : ByteArray), .int .u64 0, .int .i64 0, .slice none 0 0, .slice none 0 0]) ?_ 3 _ rfl; (with_reducible repeat (first | refine blk_drewN ?_ _ | refine blk_drew ?_ | refine blk_alloc ?_ _)); refine blk_put (cs := #[.int .u64 1, .int .u64 a1_1, .string (⟨#[]⟩ : ByteArray), .int .i64 0, .string (⟨#[]⟩ : ByteArray), .string (⟨#[]⟩ : ByteArray), .int .u64 0, .int .i64 0, .slice none 0 0, .slice none 0 0]) ?_ 2 _ rfl; (with_reducible repeat (first | refine blk_drewN ?_ _ | refine blk_drew ?_ | refine blk_alloc ?_ _)); refine blk_put (cs := #[.int .u64 1, .int .u64 0, .string (⟨#[]⟩ : ByteArray), .int .i64 0, .string (⟨#[]⟩ : ByteArray), .string (⟨#[]⟩ : ByteArray), .int .u64 0, .int .i64 0, .slice none 0 0, .slice none 0 0]) ?_ 1 _ rfl; (with_reducible repeat (first | refine blk_drewN ?_ _ | refine blk_drew ?_ | refine blk_alloc ?_ _)); refine blk_put (cs := #[.int .u64 0, .int .u64 0, .string (⟨#[]⟩ : ByteArray), .int .i64 0, .string (⟨#[]⟩ : ByteArray), .string (⟨#[]⟩ : ByteArray), .int .u64 0, .int .i64 0, .slice none 0 0, .slice none 0 0]) ?_ 0 _ rfl; (with_reducible repeat (first | refine blk_drewN ?_ _ | refine blk_drew ?_ | refine blk_alloc ?_ _)); refine blk_far ?_ NB109_108.out _; (with_reducible repeat (first | refine blk_drewN ?_ _ | refine blk_drew ?_ | refine blk_alloc ?_ _)); refine blk_far ?_ NB109_108.out _; (with_reducible repeat (first | refine blk_drewN ?_ _ | refine blk_drew ?_ | refine blk_alloc ?_ _)); refine blk_far ?_ NB109_108.out _; (with_reducible repeat (first | refine blk_drewN ?_ _ | refine blk_drew ?_ | refine blk_alloc ?_ _)); exact BK109.out) Try.underlying27 rfl (by kernel_rfl)) rfl ?_
    exact ⟨_, _, by first | rfl | (simp [errW_none, errW_some] <;> rfl) | (simp [*, errW_none, errW_some] <;> rfl), by (with_reducible repeat (first | apply Kd.R_alloc | apply Kd.R_drewN | apply Kd.R_drew)); exact Kd.R_mono (Kd.R_far (p := ⟨gb109, 9, none⟩) (Kd.R_far (p := ⟨gb109, 8, none⟩) (Kd.R_far (p := ⟨gb109, 7, none⟩) (Kd.R_far (p := ⟨gb109, 6, none⟩) (Kd.R_far (p := ⟨gb109, 5, none⟩) (Kd.R_far (p := ⟨gb109, 4, none⟩) (Kd.R_far (p := ⟨gb109, 3, none⟩) (Kd.R_far (p := ⟨gb109, 2, none⟩) (Kd.R_far (p := ⟨gb109, 1, none⟩) (Kd.R_far (p := ⟨gb109, 0, none⟩) (Kd.R_far (p := ⟨gb108, 9, none⟩) (Kd.R_far (p := ⟨gb108, 0, none⟩) (Kd.R_far (p := ⟨gb108, 8, none⟩) (Kd.R_types (Kd.R_types HO112.out BK108.out (by decide)) BK109.out (by decide)) (fun _ hk => hk.1.2) (.slice Ao10 t110.length co10)) (fun _ hk => hk.1.2) (.int .u64 1)) (fun _ hk => hk.1.2) (.slice none 0 0)) (fun _ hk => hk.2) (.int .u64 1)) (fun _ hk => hk.2) (.int .u64 a1_1)) (fun _ hk => hk.2) (.string a1_2)) (fun _ hk => hk.2) (.int .i64 a1_3)) (fun _ hk => hk.2) (.string a1_4)) (fun _ hk => hk.2) (.string a1_5)) (fun _ hk => hk.2) (.int .u64 a1_6)) (fun _ hk => hk.2) (.int .i64 a1_7)) (fun _ hk => hk.2) (.slice Ao10 t110.length co10)) (fun _ hk => hk.2) (.slice none 0 0)) (fun _ hk => (by simp [Value.ownBlock])), by first | exact Kd.R_nil _ _ _ _ _ | exact Kd.N_nil _ _ _ _ _ | exact Kd.V_nil _ _ _ _ _ | exact Kd.Q_nil _ _ _ _ _ | exact Kd.S_nil _ _ _ _ _, by repeat (first | (with_reducible first | exact HB.out | apply below_alloc | apply pw_below_drewN | apply below_drew1 | refine below_set ?_ GE108.out | refine below_set ?_ GE109.out) | exact HB.out)⟩
  · rw [if_neg c4] at H
    have c4b0 : ((l0.length : Int) == 0) = false := beq_eq_false_iff_ne.mpr c4
    have c4b1 : ((l0.length : Int) != 0) = true := bne_iff_ne.mpr c4
    have c4b2 : ¬ (l0 = []) := fun h_ => c4 (by rw [h_]; rfl)
    obtain ⟨ji13, hji13⟩ : ∃ j_ : Int, (wrap64 ((l0.length : Int) - 1)) = j_ := ⟨_, rfl⟩
    replace H : (if 0 ≤ (ji13) then (if (ji13) < (l0.length : Int) then ((audit_Digest.f ((rd_T27 l0 (ji13)).f0) ((rd_T27 l0 (ji13)).f1) ((rd_T27 l0 (ji13)).f2) ((rd_T27 l0 (ji13)).f3) ((rd_T27 l0 (ji13)).f4) ((rd_T27 l0 (ji13)).f5) ((rd_T27 l0 (ji13)).f6) ((rd_T27 l0 (ji13)).f7) ((rd_T27 l0 (ji13)).f8) ((rd_T27 l0 (ji13)).f9)).bind fun t115 => (some (IntKind.u64.wrap (((rd_T27 l0 (ji13)).f0) + 1), a1_1, a1_2, a1_3, a1_4, a1_5, a1_6, a1_7, t110, t115))) else (none)) else (none)) = some (r1, r2, r3, r4, r5, r6, r7, r8, r9, r10) := by first | (rw [hji13] at H; exact H) | (simp only [hji13] at H ⊢; exact H)
    (try rw [hji13] at A3)
    have hji13w : (IntKind.i64.wrap ((l0.length : Int) - 1)) = ji13 := (i64_w _).trans hji13
    by_cases c14 : 0 ≤ (ji13)
    · rw [if_pos c14] at H
      have c14b0 : decide (0 ≤ (ji13)) = true := decide_eq_true c14
      clear c14
      by_cases c15 : (ji13) < (l0.length : Int)
      · rw [if_pos c15] at H
        have c15b0 : decide ((ji13) < (l0.length : Int)) = true := decide_eq_true c15
        clear c15
        replace H := Option.bind_eq_some_iff.mp H
        obtain ⟨t115, A160, H⟩ := H
        replace H : (some (IntKind.u64.wrap (((rd_T27 l0 (ji13)).f0) + 1), a1_1, a1_2, a1_3, a1_4, a1_5, a1_6, a1_7, t110, t115)) = some (r1, r2, r3, r4, r5, r6, r7, r8, r9, r10) := H
        have A16 := Aside0.mk A160
        clear A160
        simp only [Option.some.injEq, Prod.mk.injEq] at H
        obtain ⟨rfl, rfl, rfl, rfl, rfl, rfl, rfl, rfl, rfl, rfl⟩ := H
        go_enter Try.func26, Try.ntmps26
        try go_wp2_with (first | ((with_reducible refine gate_dst (N := 3) rfl ?_); refine box_event ?hg (N := 3) ?hd (cs := #[.int .u64 a1_0, .int .u64 a1_1, .string a1_2, .int .i64 a1_3, .string a1_4, .string a1_5, .int .u64 a1_6, .int .i64 a1_7, .slice A1_8 l1_8.length c1_8, .slice A1_9 l1_9.length c1_9]) (t := 27) ?hr ?_; (case hd => rfl); (case hg => rfl); (case hr => first | (go_simp; done) | (go_simp; rfl)); intro gb108 hg w17 hbox hb; have n0_ := Aside0.mk (below_step (by repeat (first | (with_reducible first | exact HB.out | apply below_alloc | apply pw_below_drewN | apply below_drew1) | exact HB.out)) hb); have n1_ := Aside0.mk (hbox); have n2_ := Aside0.mk ((by rw [hg]; exact (below_size (by repeat (first | (with_reducible first | exact HB.out | apply below_alloc | apply pw_below_drewN | apply below_drew1) | exact HB.out))) : w.heap.size ≤ gb108)); have n3_ := Aside0.mk ((by rw [hg]; exact (below_size (by repeat (first | (with_reducible first | exact HB.out | apply below_alloc | apply pw_below_drewN | apply below_drew1) | exact HB.out))) : w.heap.size ≤ gb108)); clear HB; have HB := n0_; have BK108 := n1_; have GW108 := n2_; have GE108 := n3_; clear n0_ n1_ n2_ n3_; clear hb hbox hg) | ((with_reducible refine gate_dst (N := 4) rfl ?_); refine box_event ?hg (N := 4) ?hd (cs := #[.int .u64 0, .int .u64 0, .string (⟨#[]⟩ : ByteArray), .int .i64 0, .string (⟨#[]⟩ : ByteArray), .string (⟨#[]⟩ : ByteArray), .int .u64 0, .int .i64 0, .slice none 0 0, .slice none 0 0]) (t := 27) ?hr ?_; (case hd => rfl); (case hg => rfl); (case hr => first | (go_simp; done) | (go_simp; rfl)); intro gb109 hg w18 hbox hb; have n0_ := Aside0.mk (blk_below (g := gb108) (o := .cells #[.int .u64 a1_0, .int .u64 a1_1, .string a1_2, .int .i64 a1_3, .string a1_4, .string a1_5, .int .u64 a1_6, .int .i64 a1_7, .slice A1_8 l1_8.length c1_8, .slice A1_9 l1_9.length c1_9] 27 (0, 0)) (by (with_reducible repeat (first | refine blk_drewN ?_ _ | refine blk_drew ?_ | refine blk_alloc ?_ _)); exact BK108.out) hb); have n1_ := Aside0.mk (below_step (by repeat (first | (with_reducible first | exact HB.out | apply below_alloc | apply pw_below_drewN | apply below_drew1 | refine below_set ?_ GE108.out) | exact HB.out)) hb); have n2_ := Aside0.mk (hbox); have n3_ := Aside0.mk ((by rw [hg]; exact (below_size (by repeat (first | (with_reducible first | exact HB.out | apply below_alloc | apply pw_below_drewN | apply below_drew1 | refine below_set ?_ GE108.out) | exact HB.out))) : w.heap.size ≤ gb109)); have n4_ := Aside0.mk ((by rw [hg]; exact (below_size (by repeat (first | (with_reducible first | exact HB.out | apply below_alloc | apply pw_below_drewN | apply below_drew1 | refine below_set ?_ GE108.out) | exact HB.out))) : w.heap.size ≤ gb109)); have n5_ := Aside0.mk ((by rw [hg]; exact Nat.ne_of_lt (blk_lt (g := gb108) (o := .cells #[.int .u64 a1_0, .int .u64 a1_1, .string a1_2, .int .i64 a1_3, .string a1_4, .string a1_5, .int .u64 a1_6, .int .i64 a1_7, .slice A1_8 l1_8.length c1_8, .slice A1_9 l1_9.length c1_9] 27 (0, 0)) (by (with_reducible repeat (first | refine blk_drewN ?_ _ | refine blk_drew ?_ | refine blk_alloc ?_ _)); exact BK108.out)) : gb108 ≠ gb109)); have n6_ := Aside0.mk ((by rw [hg]; exact Nat.ne_of_gt (blk_lt (g := gb108) (o := .cells #[.int .u64 a1_0, .int .u64 a1_1, .string a1_2, .int .i64 a1_3, .string a1_4, .string a1_5, .int .u64 a1_6, .int .i64 a1_7, .slice A1_8 l1_8.length c1_8, .slice A1_9 l1_9.length c1_9] 27 (0, 0)) (by (with_reducible repeat (first | refine blk_drewN ?_ _ | refine blk_drew ?_ | refine blk_alloc ?_ _)); exact BK108.out)) : gb109 ≠ gb108)); clear BK108; clear HB; have BK108 := n0_; have HB := n1_; have BK109 := n2_; have GW109 := n3_; have GE109 := n4_; have NB108_109 := n5_; have NB109_108 := n6_; clear n0_ n1_ n2_ n3_ n4_ n5_ n6_; clear hb hbox hg; have hnb19 := NB108_109.out; have hnc19 := NB109_108.out; have hcz20_0 : w18.cell? ⟨gb108, 0, none⟩ = some (.int .u64 a1_0) := (blk_cell BK108.out 0).trans rfl; have hcz20_1 : w18.cell? ⟨gb108, 1, none⟩ = some (.int .u64 a1_1) := (blk_cell BK108.out 1).trans rfl; have hcz20_2 : w18.cell? ⟨gb108, 2, none⟩ = some (.string a1_2) := (blk_cell BK108.out 2).trans rfl; have hcz20_3 : w18.cell? ⟨gb108, 3, none⟩ = some (.int .i64 a1_3) := (blk_cell BK108.out 3).trans rfl; have hcz20_4 : w18.cell? ⟨gb108, 4, none⟩ = some (.string a1_4) := (blk_cell BK108.out 4).trans rfl; have hcz20_5 : w18.cell? ⟨gb108, 5, none⟩ = some (.string a1_5) := (blk_cell BK108.out 5).trans rfl; have hcz20_6 : w18.cell? ⟨gb108, 6, none⟩ = some (.int .u64 a1_6) := (blk_cell BK108.out 6).trans rfl; have hcz20_7 : w18.cell? ⟨gb108, 7, none⟩ = some (.int .i64 a1_7) := (blk_cell BK108.out 7).trans rfl; have hcz20_8 : w18.cell? ⟨gb108, 8, none⟩ = some (.slice A1_8 l1_8.length c1_8) := (blk_cell BK108.out 8).trans rfl; have hcz20_9 : w18.cell? ⟨gb108, 9, none⟩ = some (.slice A1_9 l1_9.length c1_9) := (blk_cell BK108.out 9).trans rfl; have hfz20_0 := blk_frozen BK108.out 0; have hfz20_1 := blk_frozen BK108.out 1; have hfz20_2 := blk_frozen BK108.out 2; have hfz20_3 := blk_frozen BK108.out 3; have hfz20_4 := blk_frozen BK108.out 4; have hfz20_5 := blk_frozen BK108.out 5; have hfz20_6 := blk_frozen BK108.out 6; have hfz20_7 := blk_frozen BK108.out 7; have hfz20_8 := blk_frozen BK108.out 8; have hfz20_9 := blk_frozen BK108.out 9) | ((with_reducible refine gate_callee (f := 50) rfl ?_); refine goesL_ (some 8) rfl rfl Try.func50 (by kernel_rfl) rfl #[.slice A1_8 l1_8.length c1_8] rfl (by (try simp only [List.map_toArray, List.map_cons, List.map_nil]); first | done | rfl | (simp only [List.length_drop, List.length_take]; rfl)) ?_; (with_reducible refine (clone.calls _ _ l1_8 t110 _ ?side1 ?side2 A3.out).mono ?_); (case side1 => repeat (first | exact (Kd.C_below HR1_8.out HB.out) | (with_reducible refine Kd.C_alloc ?_ _) | (with_reducible refine Kd.C_drewN ?_ _) | (with_reducible refine Kd.C_drew ?_))); (case side2 => exact HC1_8.out); rintro e w21 ⟨v111, rfl, ho0, hb⟩; refine ⟨_, rfl, ?_⟩; have n0_ := Aside0.mk (Kd.R_lower ho0 (below_size (by repeat (first | (with_reducible first | exact HB.out | apply below_alloc | apply pw_below_drewN | apply below_drew1 | refine below_set ?_ GE108.out | refine below_set ?_ GE109.out) | exact HB.out)))); have n1_ := Aside0.mk (blk_below (g := gb108) (o := .cells #[.int .u64 a1_0, .int .u64 a1_1, .string a1_2, .int .i64 a1_3, .string a1_4, .string a1_5, .int .u64 a1_6, .int .i64 a1_7, .slice A1_8 l1_8.length c1_8, .slice A1_9 l1_9.length c1_9] 27 (0, 0)) (by (with_reducible repeat (first | refine blk_drewN ?_ _ | refine blk_drew ?_ | refine blk_alloc ?_ _)); exact BK108.out) hb); have n2_ := Aside0.mk (blk_below (g := gb109) (o := .cells #[.int .u64 0, .int .u64 0, .string (⟨#[]⟩ : ByteArray), .int .i64 0, .string (⟨#[]⟩ : ByteArray), .string (⟨#[]⟩ : ByteArray), .int .u64 0, .int .i64 0, .slice none 0 0, .slice none 0 0] 27 (0, 0)) (by (with_reducible repeat (first | refine blk_drewN ?_ _ | refine blk_drew ?_ | refine blk_alloc ?_ _)); exact BK109.out) hb); have n3_ := Aside0.mk (below_step (by repeat (first | (with_reducible first | exact HB.out | apply below_alloc | apply pw_below_drewN | apply below_drew1 | refine below_set ?_ GE108.out | refine below_set ?_ GE109.out) | exact HB.out)) hb); clear BK108; clear BK109; clear HB; have HO112 := n0_; have BK108 := n1_; have BK109 := n2_; have HB := n3_; clear n0_ n1_ n2_ n3_; (try clear hb); (try clear hb2); (try clear hk); (try clear hi); (try clear ho0); obtain ⟨Ao22, co22, eo22⟩ := Kd.R_slice HO112.out; subst eo22; have hcz23_0 : w21.cell? ⟨gb108, 0, none⟩ = some (.int .u64 a1_0) := (blk_cell BK108.out 0).trans rfl; have hcz23_1 : w21.cell? ⟨gb108, 1, none⟩ = some (.int .u64 a1_1) := (blk_cell BK108.out 1).trans rfl; have hcz23_2 : w21.cell? ⟨gb108, 2, none⟩ = some (.string a1_2) := (blk_cell BK108.out 2).trans rfl; have hcz23_3 : w21.cell? ⟨gb108, 3, none⟩ = some (.int .i64 a1_3) := (blk_cell BK108.out 3).trans rfl; have hcz23_4 : w21.cell? ⟨gb108, 4, none⟩ = some (.string a1_4) := (blk_cell BK108.out 4).trans rfl; have hcz23_5 : w21.cell? ⟨gb108, 5, none⟩ = some (.string a1_5) := (blk_cell BK108.out 5).trans rfl; have hcz23_6 : w21.cell? ⟨gb108, 6, none⟩ = some (.int .u64 a1_6) := (blk_cell BK108.out 6).trans rfl; have hcz23_7 : w21.cell? ⟨gb108, 7, none⟩ = some (.int .i64 a1_7) := (blk_cell BK108.out 7).trans rfl; have hcz23_8 : w21.cell? ⟨gb108, 8, none⟩ = some (.slice A1_8 l1_8.length c1_8) := (blk_cell BK108.out 8).trans rfl; have hcz23_9 : w21.cell? ⟨gb108, 9, none⟩ = some (.slice A1_9 l1_9.length c1_9) := (blk_cell BK108.out 9).trans rfl; have hfz23_0 := blk_frozen BK108.out 0; have hfz23_1 := blk_frozen BK108.out 1; have hfz23_2 := blk_frozen BK108.out 2; have hfz23_3 := blk_frozen BK108.out 3; have hfz23_4 := blk_frozen BK108.out 4; have hfz23_5 := blk_frozen BK108.out 5; have hfz23_6 := blk_frozen BK108.out 6; have hfz23_7 := blk_frozen BK108.out 7; have hfz23_8 := blk_frozen BK108.out 8; have hfz23_9 := blk_frozen BK108.out 9; have p113 : 0 ≤ ((ji13) : Int) := of_decide_eq_true (by first | (with_reducible assumption) | assumption); have q113 : (ji13) < (l0.length : Int) := of_decide_eq_true (by first | (with_reducible assumption) | assumption); obtain ⟨ad113, A113_8, c113_8, A113_9, c113_9, e113, hx113_0, hx113_1, hx113_2, hx113_3, hx113_4, hx113_5, hx113_6, hx113_7, hx113_8, hx113_9, hl113_8, hi113_8, hl113_9, hi113_9⟩ := at_T27 HR0.out (ji13) p113 q113; cases e113; have hn113_0 : ad113.block ≠ gb108 := Nat.ne_of_lt (Nat.lt_of_lt_of_le (by have := World.block_lt_of_cell? _ _ hx113_0; first | rwa [add_block] at this | exact this) GW108.out); replace hx113_0 := (HB.out.cell (World.block_lt_of_cell? w _ hx113_0)).trans hx113_0; replace hx113_1 := (HB.out.cell (World.block_lt_of_cell? w _ hx113_1)).trans hx113_1; replace hx113_2 := (HB.out.cell (World.block_lt_of_cell? w _ hx113_2)).trans hx113_2; replace hx113_3 := (HB.out.cell (World.block_lt_of_cell? w _ hx113_3)).trans hx113_3; replace hx113_4 := (HB.out.cell (World.block_lt_of_cell? w _ hx113_4)).trans hx113_4; replace hx113_5 := (HB.out.cell (World.block_lt_of_cell? w _ hx113_5)).trans hx113_5; replace hx113_6 := (HB.out.cell (World.block_lt_of_cell? w _ hx113_6)).trans hx113_6; replace hx113_7 := (HB.out.cell (World.block_lt_of_cell? w _ hx113_7)).trans hx113_7; replace hx113_8 := (HB.out.cell (World.block_lt_of_cell? w _ hx113_8)).trans hx113_8; replace hx113_9 := (HB.out.cell (World.block_lt_of_cell? w _ hx113_9)).trans hx113_9; have HR113_8 := Aside0.mk hi113_8; have HC113_8 := Aside0.mk hl113_8; clear hi113_8 hl113_8; have HR113_9 := Aside0.mk hi113_9; have HC113_9 := Aside0.mk hl113_9; clear hi113_9 hl113_9; replace hx113_0 := (cell_far (p := ⟨gb108, 8, none⟩) (by first | (rw [add_block]; exact hn113_0) | (show (Addr.add _ _).block ≠ _; rw [add_block]; exact hn113_0) | exact hn113_0) (.slice Ao22 t110.length co22)).trans hx113_0; replace hx113_1 := (cell_far (p := ⟨gb108, 8, none⟩) (by first | (rw [add_block]; exact hn113_0) | (show (Addr.add _ _).block ≠ _; rw [add_block]; exact hn113_0) | exact hn113_0) (.slice Ao22 t110.length co22)).trans hx113_1; replace hx113_2 := (cell_far (p := ⟨gb108, 8, none⟩) (by first | (rw [add_block]; exact hn113_0) | (show (Addr.add _ _).block ≠ _; rw [add_block]; exact hn113_0) | exact hn113_0) (.slice Ao22 t110.length co22)).trans hx113_2; replace hx113_3 := (cell_far (p := ⟨gb108, 8, none⟩) (by first | (rw [add_block]; exact hn113_0) | (show (Addr.add _ _).block ≠ _; rw [add_block]; exact hn113_0) | exact hn113_0) (.slice Ao22 t110.length co22)).trans hx113_3; replace hx113_4 := (cell_far (p := ⟨gb108, 8, none⟩) (by first | (rw [add_block]; exact hn113_0) | (show (Addr.add _ _).block ≠ _; rw [add_block]; exact hn113_0) | exact hn113_0) (.slice Ao22 t110.length co22)).trans hx113_4; replace hx113_5 := (cell_far (p := ⟨gb108, 8, none⟩) (by first | (rw [add_block]; exact hn113_0) | (show (Addr.add _ _).block ≠ _; rw [add_block]; exact hn113_0) | exact hn113_0) (.slice Ao22 t110.length co22)).trans hx113_5; replace hx113_6 := (cell_far (p := ⟨gb108, 8, none⟩) (by first | (rw [add_block]; exact hn113_0) | (show (Addr.add _ _).block ≠ _; rw [add_block]; exact hn113_0) | exact hn113_0) (.slice Ao22 t110.length co22)).trans hx113_6; replace hx113_7 := (cell_far (p := ⟨gb108, 8, none⟩) (by first | (rw [add_block]; exact hn113_0) | (show (Addr.add _ _).block ≠ _; rw [add_block]; exact hn113_0) | exact hn113_0) (.slice Ao22 t110.length co22)).trans hx113_7; replace hx113_8 := (cell_far (p := ⟨gb108, 8, none⟩) (by first | (rw [add_block]; exact hn113_0) | (show (Addr.add _ _).block ≠ _; rw [add_block]; exact hn113_0) | exact hn113_0) (.slice Ao22 t110.length co22)).trans hx113_8; replace hx113_9 := (cell_far (p := ⟨gb108, 8, none⟩) (by first | (rw [add_block]; exact hn113_0) | (show (Addr.add _ _).block ≠ _; rw [add_block]; exact hn113_0) | exact hn113_0) (.slice Ao22 t110.length co22)).trans hx113_9; clear hn113_0; replace p113 := eq_true p113; replace q113 := eq_true q113) | ((with_reducible refine gate_dst (N := 5) rfl ?_); refine box_event ?hg (N := 5) ?hd (cs := #[.int .u64 0, .int .u64 0, .string (⟨#[]⟩ : ByteArray), .int .i64 0, .string (⟨#[]⟩ : ByteArray), .string (⟨#[]⟩ : ByteArray), .int .u64 0, .int .i64 0, .slice none 0 0, .slice none 0 0]) (t := 27) ?hr ?_; (case hd => rfl); (case hg => rfl); (case hr => first | (go_simp; done) | (go_simp; rfl)); intro gb114 hg w24 hbox hb; have n0_ := Aside0.mk (Kd.R_below (by (with_reducible repeat (first | apply Kd.R_alloc | apply Kd.R_drewN | apply Kd.R_drew)); exact (Kd.R_mono (Kd.R_far (p := ⟨gb108, 8, none⟩) (Kd.R_types HO112.out BK108.out (by decide)) (fun _ hk => hk.2) (.slice Ao22 t110.length co22)) (fun _ h_ => h_.1))) hb); have n1_ := Aside0.mk (blk_below (g := gb108) (o := .cells #[.int .u64 a1_0, .int .u64 a1_1, .string a1_2, .int .i64 a1_3, .string a1_4, .string a1_5, .int .u64 a1_6, .int .i64 a1_7, .slice Ao22 t110.length co22, .slice A1_9 l1_9.length c1_9] 27 (0, 0)) (by (with_reducible repeat (first | refine blk_drewN ?_ _ | refine blk_drew ?_ | refine blk_alloc ?_ _)); refine blk_put (cs := #[.int .u64 a1_0, .int .u64 a1_1, .string a1_2, .int .i64 a1_3, .string a1_4, .string a1_5, .int .u64 a1_6, .int .i64 a1_7, .slice A1_8 l1_8.length c1_8, .slice A1_9 l1_9.length c1_9]) ?_ 8 _ rfl; (with_reducible repeat (first | refine blk_drewN ?_ _ | refine blk_drew ?_ | refine blk_alloc ?_ _)); exact BK108.out) hb); have n2_ := Aside0.mk (blk_below (g := gb109) (o := .cells #[.int .u64 0, .int .u64 0, .string (⟨#[]⟩ : ByteArray), .int .i64 0, .string (⟨#[]⟩ : ByteArray), .string (⟨#[]⟩ : ByteArray), .int .u64 0, .int .i64 0, .slice none 0 0, .slice none 0 0] 27 (0, 0)) (by (with_reducible repeat (first | refine blk_drewN ?_ _ | refine blk_drew ?_ | refine blk_alloc ?_ _)); refine blk_far ?_ NB109_108.out _; (with_reducible repeat (first | refine blk_drewN ?_ _ | refine blk_drew ?_ | refine blk_alloc ?_ _)); exact BK109.out) hb); have n3_ := Aside0.mk (below_step (by repeat (first | (with_reducible first | exact HB.out | apply below_alloc | apply pw_below_drewN | apply below_drew1 | refine below_set ?_ GE108.out | refine below_set ?_ GE109.out) | exact HB.out)) hb); have n4_ := Aside0.mk (hbox); have n5_ := Aside0.mk ((by rw [hg]; exact (below_size (by repeat (first | (with_reducible first | exact HB.out | apply below_alloc | apply pw_below_drewN | apply below_drew1 | refine below_set ?_ GE108.out | refine below_set ?_ GE109.out) | exact HB.out))) : w.heap.size ≤ gb114)); have n6_ := Aside0.mk ((by rw [hg]; exact (below_size (by repeat (first | (with_reducible first | exact HB.out | apply below_alloc | apply pw_below_drewN | apply below_drew1 | refine below_set ?_ GE108.out | refine below_set ?_ GE109.out) | exact HB.out))) : w.heap.size ≤ gb114)); have n7_ := Aside0.mk ((by rw [hg]; exact Nat.ne_of_lt (blk_lt (g := gb108) (o := .cells #[.int .u64 a1_0, .int .u64 a1_1, .string a1_2, .int .i64 a1_3, .string a1_4, .string a1_5, .int .u64 a1_6, .int .i64 a1_7, .slice Ao22 t110.length co22, .slice A1_9 l1_9.length c1_9] 27 (0, 0)) (by (with_reducible repeat (first | refine blk_drewN ?_ _ | refine blk_drew ?_ | refine blk_alloc ?_ _)); refine blk_put (cs := #[.int .u64 a1_0, .int .u64 a1_1, .string a1_2, .int .i64 a1_3, .string a1_4, .string a1_5, .int .u64 a1_6, .int .i64 a1_7, .slice A1_8 l1_8.length c1_8, .slice A1_9 l1_9.length c1_9]) ?_ 8 _ rfl; (with_reducible repeat (first | refine blk_drewN ?_ _ | refine blk_drew ?_ | refine blk_alloc ?_ _)); exact BK108.out)) : gb108 ≠ gb114)); have n8_ := Aside0.mk ((by rw [hg]; exact Nat.ne_of_gt (blk_lt (g := gb108) (o := .cells #[.int .u64 a1_0, .int .u64 a1_1, .string a1_2, .int .i64 a1_3, .string a1_4, .string a1_5, .int .u64 a1_6, .int .i64 a1_7, .slice Ao22 t110.length co22, .slice A1_9 l1_9.length c1_9] 27 (0, 0)) (by (with_reducible repeat (first | refine blk_drewN ?_ _ | refine blk_drew ?_ | refine blk_alloc ?_ _)); refine blk_put (cs := #[.int .u64 a1_0, .int .u64 a1_1, .string a1_2, .int .i64 a1_3, .string a1_4, .string a1_5, .int .u64 a1_6, .int .i64 a1_7, .slice A1_8 l1_8.length c1_8, .slice A1_9 l1_9.length c1_9]) ?_ 8 _ rfl; (with_reducible repeat (first | refine blk_drewN ?_ _ | refine blk_drew ?_ | refine blk_alloc ?_ _)); exact BK108.out)) : gb114 ≠ gb108)); have n9_ := Aside0.mk ((by rw [hg]; exact Nat.ne_of_lt (blk_lt (g := gb109) (o := .cells #[.int .u64 0, .int .u64 0, .string (⟨#[]⟩ : ByteArray), .int .i64 0, .string (⟨#[]⟩ : ByteArray), .string (⟨#[]⟩ : ByteArray), .int .u64 0, .int .i64 0, .slice none 0 0, .slice none 0 0] 27 (0, 0)) (by (with_reducible repeat (first | refine blk_drewN ?_ _ | refine blk_drew ?_ | refine blk_alloc ?_ _)); refine blk_far ?_ NB109_108.out _; (with_reducible repeat (first | refine blk_drewN ?_ _ | refine blk_drew ?_ | refine blk_alloc ?_ _)); exact BK109.out)) : gb109 ≠ gb114)); have n10_ := Aside0.mk ((by rw [hg]; exact Nat.ne_of_gt (blk_lt (g := gb109) (o := .cells #[.int .u64 0, .int .u64 0, .string (⟨#[]⟩ : ByteArray), .int .i64 0, .string (⟨#[]⟩ : ByteArray), .string (⟨#[]⟩ : ByteArray), .int .u64 0, .int .i64 0, .slice none 0 0, .slice none 0 0] 27 (0, 0)) (by (with_reducible repeat (first | refine blk_drewN ?_ _ | refine blk_drew ?_ | refine blk_alloc ?_ _)); refine blk_far ?_ NB109_108.out _; (with_reducible repeat (first | refine blk_drewN ?_ _ | refine blk_drew ?_ | refine blk_alloc ?_ _)); exact BK109.out)) : gb114 ≠ gb109)); clear HO112; clear BK108; clear BK109; clear HB; have HO112 := n0_; have BK108 := n1_; have BK109 := n2_; have HB := n3_; have BK114 := n4_; have GW114 := n5_; have GE114 := n6_; have NB108_114 := n7_; have NB114_108 := n8_; have NB109_114 := n9_; have NB114_109 := n10_; clear n0_ n1_ n2_ n3_ n4_ n5_ n6_ n7_ n8_ n9_ n10_; clear hb hbox hg; have hnb25 := NB114_108.out; have hnc25 := NB108_114.out; have hnb26 := NB114_109.out; have hnc26 := NB109_114.out; have hcz27_0 : w24.cell? ⟨gb114, 0, none⟩ = some (.int .u64 0) := (blk_cell BK114.out 0).trans rfl; have hcz27_1 : w24.cell? ⟨gb114, 1, none⟩ = some (.int .u64 0) := (blk_cell BK114.out 1).trans rfl; have hcz27_2 : w24.cell? ⟨gb114, 2, none⟩ = some (.string (⟨#[]⟩ : ByteArray)) := (blk_cell BK114.out 2).trans rfl; have hcz27_3 : w24.cell? ⟨gb114, 3, none⟩ = some (.int .i64 0) := (blk_cell BK114.out 3).trans rfl; have hcz27_4 : w24.cell? ⟨gb114, 4, none⟩ = some (.string (⟨#[]⟩ : ByteArray)) := (blk_cell BK114.out 4).trans rfl; have hcz27_5 : w24.cell? ⟨gb114, 5, none⟩ = some (.string (⟨#[]⟩ : ByteArray)) := (blk_cell BK114.out 5).trans rfl; have hcz27_6 : w24.cell? ⟨gb114, 6, none⟩ = some (.int .u64 0) := (blk_cell BK114.out 6).trans rfl; have hcz27_7 : w24.cell? ⟨gb114, 7, none⟩ = some (.int .i64 0) := (blk_cell BK114.out 7).trans rfl; have hcz27_8 : w24.cell? ⟨gb114, 8, none⟩ = some (.slice none 0 0) := (blk_cell BK114.out 8).trans rfl; have hcz27_9 : w24.cell? ⟨gb114, 9, none⟩ = some (.slice none 0 0) := (blk_cell BK114.out 9).trans rfl; have hfz27_0 := blk_frozen BK114.out 0; have hfz27_1 := blk_frozen BK114.out 1; have hfz27_2 := blk_frozen BK114.out 2; have hfz27_3 := blk_frozen BK114.out 3; have hfz27_4 := blk_frozen BK114.out 4; have hfz27_5 := blk_frozen BK114.out 5; have hfz27_6 := blk_frozen BK114.out 6; have hfz27_7 := blk_frozen BK114.out 7; have hfz27_8 := blk_frozen BK114.out 8; have hfz27_9 := blk_frozen BK114.out 9))
        have n0_ : Aside0 (Kd.R (Kd.int .u8) 5 ((((((((((w24.setCell ⟨gb114, 0, none⟩ (.int .u64 ((rd_T27 l0 (ji13)).f0))).setCell ⟨gb114, 1, none⟩ (.int .u64 ((rd_T27 l0 (ji13)).f1))).setCell ⟨gb114, 2, none⟩ (.string ((rd_T27 l0 (ji13)).f2))).setCell ⟨gb114, 3, none⟩ (.int .i64 ((rd_T27 l0 (ji13)).f3))).setCell ⟨gb114, 4, none⟩ (.string ((rd_T27 l0 (ji13)).f4))).setCell ⟨gb114, 5, none⟩ (.string ((rd_T27 l0 (ji13)).f5))).setCell ⟨gb114, 6, none⟩ (.int .u64 ((rd_T27 l0 (ji13)).f6))).setCell ⟨gb114, 7, none⟩ (.int .i64 ((rd_T27 l0 (ji13)).f7))).setCell ⟨gb114, 8, none⟩ (.slice A113_8 ((rd_T27 l0 (ji13)).f8).length c113_8)).setCell ⟨gb114, 9, none⟩ (.slice A113_9 ((rd_T27 l0 (ji13)).f9).length c113_9)) w.heap.size (fun _ => True) (.slice Ao22 t110.length co22) t110) := ⟨by (with_reducible repeat (first | apply Kd.R_alloc | apply Kd.R_drewN | apply Kd.R_drew)); exact Kd.R_mono (Kd.R_far (p := ⟨gb114, 9, none⟩) (Kd.R_far (p := ⟨gb114, 8, none⟩) (Kd.R_far (p := ⟨gb114, 7, none⟩) (Kd.R_far (p := ⟨gb114, 6, none⟩) (Kd.R_far (p := ⟨gb114, 5, none⟩) (Kd.R_far (p := ⟨gb114, 4, none⟩) (Kd.R_far (p := ⟨gb114, 3, none⟩) (Kd.R_far (p := ⟨gb114, 2, none⟩) (Kd.R_far (p := ⟨gb114, 1, none⟩) (Kd.R_far (p := ⟨gb114, 0, none⟩) (Kd.R_types HO112.out BK114.out (by decide)) (fun _ hk => hk.2) (.int .u64 ((rd_T27 l0 (ji13)).f0))) (fun _ hk => hk.2) (.int .u64 ((rd_T27 l0 (ji13)).f1))) (fun _ hk => hk.2) (.string ((rd_T27 l0 (ji13)).f2))) (fun _ hk => hk.2) (.int .i64 ((rd_T27 l0 (ji13)).f3))) (fun _ hk => hk.2) (.string ((rd_T27 l0 (ji13)).f4))) (fun _ hk => hk.2) (.string ((rd_T27 l0 (ji13)).f5))) (fun _ hk => hk.2) (.int .u64 ((rd_T27 l0 (ji13)).f6))) (fun _ hk => hk.2) (.int .i64 ((rd_T27 l0 (ji13)).f7))) (fun _ hk => hk.2) (.slice A113_8 ((rd_T27 l0 (ji13)).f8).length c113_8)) (fun _ hk => hk.2) (.slice A113_9 ((rd_T27 l0 (ji13)).f9).length c113_9)) (fun _ hk => trivial)⟩
        have n1_ : Aside0 (((((((((((w24.setCell ⟨gb114, 0, none⟩ (.int .u64 ((rd_T27 l0 (ji13)).f0))).setCell ⟨gb114, 1, none⟩ (.int .u64 ((rd_T27 l0 (ji13)).f1))).setCell ⟨gb114, 2, none⟩ (.string ((rd_T27 l0 (ji13)).f2))).setCell ⟨gb114, 3, none⟩ (.int .i64 ((rd_T27 l0 (ji13)).f3))).setCell ⟨gb114, 4, none⟩ (.string ((rd_T27 l0 (ji13)).f4))).setCell ⟨gb114, 5, none⟩ (.string ((rd_T27 l0 (ji13)).f5))).setCell ⟨gb114, 6, none⟩ (.int .u64 ((rd_T27 l0 (ji13)).f6))).setCell ⟨gb114, 7, none⟩ (.int .i64 ((rd_T27 l0 (ji13)).f7))).setCell ⟨gb114, 8, none⟩ (.slice A113_8 ((rd_T27 l0 (ji13)).f8).length c113_8)).setCell ⟨gb114, 9, none⟩ (.slice A113_9 ((rd_T27 l0 (ji13)).f9).length c113_9)).heap[gb108]? = some (.cells #[.int .u64 a1_0, .int .u64 a1_1, .string a1_2, .int .i64 a1_3, .string a1_4, .string a1_5, .int .u64 a1_6, .int .i64 a1_7, .slice Ao22 t110.length co22, .slice A1_9 l1_9.length c1_9] 27 (0, 0))) := ⟨by (with_reducible repeat (first | refine blk_drewN ?_ _ | refine blk_drew ?_ | refine blk_alloc ?_ _)); refine blk_far ?_ NB108_114.out _; (with_reducible repeat (first | refine blk_drewN ?_ _ | refine blk_drew ?_ | refine blk_alloc ?_ _)); refine blk_far ?_ NB108_114.out _; (with_reducible repeat (first | refine blk_drewN ?_ _ | refine blk_drew ?_ | refine blk_alloc ?_ _)); refine blk_far ?_ NB108_114.out _; (with_reducible repeat (first | refine blk_drewN ?_ _ | refine blk_drew ?_ | refine blk_alloc ?_ _)); refine blk_far ?_ NB108_114.out _; (with_reducible repeat (first | refine blk_drewN ?_ _ | refine blk_drew ?_ | refine blk_alloc ?_ _)); refine blk_far ?_ NB108_114.out _; (with_reducible repeat (first | refine blk_drewN ?_ _ | refine blk_drew ?_ | refine blk_alloc ?_ _)); refine blk_far ?_ NB108_114.out _; (with_reducible repeat (first | refine blk_drewN ?_ _ | refine blk_drew ?_ | refine blk_alloc ?_ _)); refine blk_far ?_ NB108_114.out _; (with_reducible repeat (first | refine blk_drewN ?_ _ | refine blk_drew ?_ | refine blk_alloc ?_ _)); refine blk_far ?_ NB108_114.out _; (with_reducible repeat (first | refine blk_drewN ?_ _ | refine blk_drew ?_ | refine blk_alloc ?_ _)); refine blk_far ?_ NB108_114.out _; (with_reducible repeat (first | refine blk_drewN ?_ _ | refine blk_drew ?_ | refine blk_alloc ?_ _)); refine blk_far ?_ NB108_114.out _; (with_reducible repeat (first | refine blk_drewN ?_ _ | refine blk_drew ?_ | refine blk_alloc ?_ _)); exact BK108.out⟩
        have n2_ : Aside0 (((((((((((w24.setCell ⟨gb114, 0, none⟩ (.int .u64 ((rd_T27 l0 (ji13)).f0))).setCell ⟨gb114, 1, none⟩ (.int .u64 ((rd_T27 l0 (ji13)).f1))).setCell ⟨gb114, 2, none⟩ (.string ((rd_T27 l0 (ji13)).f2))).setCell ⟨gb114, 3, none⟩ (.int .i64 ((rd_T27 l0 (ji13)).f3))).setCell ⟨gb114, 4, none⟩ (.string ((rd_T27 l0 (ji13)).f4))).setCell ⟨gb114, 5, none⟩ (.string ((rd_T27 l0 (ji13)).f5))).setCell ⟨gb114, 6, none⟩ (.int .u64 ((rd_T27 l0 (ji13)).f6))).setCell ⟨gb114, 7, none⟩ (.int .i64 ((rd_T27 l0 (ji13)).f7))).setCell ⟨gb114, 8, none⟩ (.slice A113_8 ((rd_T27 l0 (ji13)).f8).length c113_8)).setCell ⟨gb114, 9, none⟩ (.slice A113_9 ((rd_T27 l0 (ji13)).f9).length c113_9)).heap[gb109]? = some (.cells #[.int .u64 0, .int .u64 0, .string (⟨#[]⟩ : ByteArray), .int .i64 0, .string (⟨#[]⟩ : ByteArray), .string (⟨#[]⟩ : ByteArray), .int .u64 0, .int .i64 0, .slice none 0 0, .slice none 0 0] 27 (0, 0))) := ⟨by (with_reducible repeat (first | refine blk_drewN ?_ _ | refine blk_drew ?_ | refine blk_alloc ?_ _)); refine blk_far ?_ NB109_114.out _; (with_reducible repeat (first | refine blk_drewN ?_ _ | refine blk_drew ?_ | refine blk_alloc ?_ _)); refine blk_far ?_ NB109_114.out _; (with_reducible repeat (first | refine blk_drewN ?_ _ | refine blk_drew ?_ | refine blk_alloc ?_ _)); refine blk_far ?_ NB109_114.out _; (with_reducible repeat (first | refine blk_drewN ?_ _ | refine blk_drew ?_ | refine blk_alloc ?_ _)); refine blk_far ?_ NB109_114.out _; (with_reducible repeat (first | refine blk_drewN ?_ _ | refine blk_drew ?_ | refine blk_alloc ?_ _)); refine blk_far ?_ NB109_114.out _; (with_reducible repeat (first | refine blk_drewN ?_ _ | refine blk_drew ?_ | refine blk_alloc ?_ _)); refine blk_far ?_ NB109_114.out _; (with_reducible repeat (first | refine blk_drewN ?_ _ | refine blk_drew ?_ | refine blk_alloc ?_ _)); refine blk_far ?_ NB109_114.out _; (with_reducible repeat (first | refine blk_drewN ?_ _ | refine blk_drew ?_ | refine blk_alloc ?_ _)); refine blk_far ?_ NB109_114.out _; (with_reducible repeat (first | refine blk_drewN ?_ _ | refine blk_drew ?_ | refine blk_alloc ?_ _)); refine blk_far ?_ NB109_114.out _; (with_reducible repeat (first | refine blk_drewN ?_ _ | refine blk_drew ?_ | refine blk_alloc ?_ _)); refine blk_far ?_ NB109_114.out _; (with_reducible repeat (first | refine blk_drewN ?_ _ | refine blk_drew ?_ | refine blk_alloc ?_ _)); exact BK109.out⟩
        have n3_ : Aside0 (((((((((((w24.setCell ⟨gb114, 0, none⟩ (.int .u64 ((rd_T27 l0 (ji13)).f0))).setCell ⟨gb114, 1, none⟩ (.int .u64 ((rd_T27 l0 (ji13)).f1))).setCell ⟨gb114, 2, none⟩ (.string ((rd_T27 l0 (ji13)).f2))).setCell ⟨gb114, 3, none⟩ (.int .i64 ((rd_T27 l0 (ji13)).f3))).setCell ⟨gb114, 4, none⟩ (.string ((rd_T27 l0 (ji13)).f4))).setCell ⟨gb114, 5, none⟩ (.string ((rd_T27 l0 (ji13)).f5))).setCell ⟨gb114, 6, none⟩ (.int .u64 ((rd_T27 l0 (ji13)).f6))).setCell ⟨gb114, 7, none⟩ (.int .i64 ((rd_T27 l0 (ji13)).f7))).setCell ⟨gb114, 8, none⟩ (.slice A113_8 ((rd_T27 l0 (ji13)).f8).length c113_8)).setCell ⟨gb114, 9, none⟩ (.slice A113_9 ((rd_T27 l0 (ji13)).f9).length c113_9)).heap[gb114]? = some (.cells #[.int .u64 ((rd_T27 l0 (ji13)).f0), .int .u64 ((rd_T27 l0 (ji13)).f1), .string ((rd_T27 l0 (ji13)).f2), .int .i64 ((rd_T27 l0 (ji13)).f3), .string ((rd_T27 l0 (ji13)).f4), .string ((rd_T27 l0 (ji13)).f5), .int .u64 ((rd_T27 l0 (ji13)).f6), .int .i64 ((rd_T27 l0 (ji13)).f7), .slice A113_8 ((rd_T27 l0 (ji13)).f8).length c113_8, .slice A113_9 ((rd_T27 l0 (ji13)).f9).length c113_9] 27 (0, 0))) := ⟨by (with_reducible repeat (first | refine blk_drewN ?_ _ | refine blk_drew ?_ | refine blk_alloc ?_ _)); refine blk_put (cs := #[.int .u64 ((rd_T27 l0 (ji13)).f0), .int .u64 ((rd_T27 l0 (ji13)).f1), .string ((rd_T27 l0 (ji13)).f2), .int .i64 ((rd_T27 l0 (ji13)).f3), .string ((rd_T27 l0 (ji13)).f4), .string ((rd_T27 l0 (ji13)).f5), .int .u64 ((rd_T27 l0 (ji13)).f6), .int .i64 ((rd_T27 l0 (ji13)).f7), .slice A113_8 ((rd_T27 l0 (ji13)).f8).length c113_8, .slice none 0 0]) ?_ 9 _ rfl; (with_reducible repeat (first | refine blk_drewN ?_ _ | refine blk_drew ?_ | refine blk_alloc ?_ _)); refine blk_put (cs := #[.int .u64 ((rd_T27 l0 (ji13)).f0), .int .u64 ((rd_T27 l0 (ji13)).f1), .string ((rd_T27 l0 (ji13)).f2), .int .i64 ((rd_T27 l0 (ji13)).f3), .string ((rd_T27 l0 (ji13)).f4), .string ((rd_T27 l0 (ji13)).f5), .int .u64 ((rd_T27 l0 (ji13)).f6), .int .i64 ((rd_T27 l0 (ji13)).f7), .slice none 0 0, .slice none 0 0]) ?_ 8 _ rfl; (with_reducible repeat (first | refine blk_drewN ?_ _ | refine blk_drew ?_ | refine blk_alloc ?_ _)); refine blk_put (cs := #[.int .u64 ((rd_T27 l0 (ji13)).f0), .int .u64 ((rd_T27 l0 (ji13)).f1), .string ((rd_T27 l0 (ji13)).f2), .int .i64 ((rd_T27 l0 (ji13)).f3), .string ((rd_T27 l0 (ji13)).f4), .string ((rd_T27 l0 (ji13)).f5), .int .u64 ((rd_T27 l0 (ji13)).f6), .int .i64 0, .slice none 0 0, .slice none 0 0]) ?_ 7 _ rfl; (with_reducible repeat (first | refine blk_drewN ?_ _ | refine blk_drew ?_ | refine blk_alloc ?_ _)); refine blk_put (cs := #[.int .u64 ((rd_T27 l0 (ji13)).f0), .int .u64 ((rd_T27 l0 (ji13)).f1), .string ((rd_T27 l0 (ji13)).f2), .int .i64 ((rd_T27 l0 (ji13)).f3), .string ((rd_T27 l0 (ji13)).f4), .string ((rd_T27 l0 (ji13)).f5), .int .u64 0, .int .i64 0, .slice none 0 0, .slice none 0 0]) ?_ 6 _ rfl; (with_reducible repeat (first | refine blk_drewN ?_ _ | refine blk_drew ?_ | refine blk_alloc ?_ _)); refine blk_put (cs := #[.int .u64 ((rd_T27 l0 (ji13)).f0), .int .u64 ((rd_T27 l0 (ji13)).f1), .string ((rd_T27 l0 (ji13)).f2), .int .i64 ((rd_T27 l0 (ji13)).f3), .string ((rd_T27 l0 (ji13)).f4), .string (⟨#[]⟩ : ByteArray), .int .u64 0, .int .i64 0, .slice none 0 0, .slice none 0 0]) ?_ 5 _ rfl; (with_reducible repeat (first | refine blk_drewN ?_ _ | refine blk_drew ?_ | refine blk_alloc ?_ _)); refine blk_put (cs := #[.int .u64 ((rd_T27 l0 (ji13)).f0), .int .u64 ((rd_T27 l0 (ji13)).f1), .string ((rd_T27 l0 (ji13)).f2), .int .i64 ((rd_T27 l0 (ji13)).f3), .string (⟨#[]⟩ : ByteArray), .string (⟨#[]⟩ : ByteArray), .int .u64 0, .int .i64 0, .slice none 0 0, .slice none 0 0]) ?_ 4 _ rfl; (with_reducible repeat (first | refine blk_drewN ?_ _ | refine blk_drew ?_ | refine blk_alloc ?_ _)); refine blk_put (cs := #[.int .u64 ((rd_T27 l0 (ji13)).f0), .int .u64 ((rd_T27 l0 (ji13)).f1), .string ((rd_T27 l0 (ji13)).f2), .int .i64 0, .string (⟨#[]⟩ : ByteArray), .string (⟨#[]⟩ : ByteArray), .int .u64 0, .int .i64 0, .slice none 0 0, .slice none 0 0]) ?_ 3 _ rfl; (with_reducible repeat (first | refine blk_drewN ?_ _ | refine blk_drew ?_ | refine blk_alloc ?_ _)); refine blk_put (cs := #[.int .u64 ((rd_T27 l0 (ji13)).f0), .int .u64 ((rd_T27 l0 (ji13)).f1), .string (⟨#[]⟩ : ByteArray), .int .i64 0, .string (⟨#[]⟩ : ByteArray), .string (⟨#[]⟩ : ByteArray), .int .u64 0, .int .i64 0, .slice none 0 0, .slice none 0 0]) ?_ 2 _ rfl; (with_reducible repeat (first | refine blk_drewN ?_ _ | refine blk_drew ?_ | refine blk_alloc ?_ _)); refine blk_put (cs := #[.int .u64 ((rd_T27 l0 (ji13)).f0), .int .u64 0, .string (⟨#[]⟩ : ByteArray), .int .i64 0, .string (⟨#[]⟩ : ByteArray), .string (⟨#[]⟩ : ByteArray), .int .u64 0, .int .i64 0, .slice none 0 0, .slice none 0 0]) ?_ 1 _ rfl; (with_reducible repeat (first | refine blk_drewN ?_ _ | refine blk_drew ?_ | refine blk_alloc ?_ _)); refine blk_put (cs := #[.int .u64 0, .int .u64 0, .string (⟨#[]⟩ : ByteArray), .int .i64 0, .string (⟨#[]⟩ : ByteArray), .string (⟨#[]⟩ : ByteArray), .int .u64 0, .int .i64 0, .slice none 0 0, .slice none 0 0]) ?_ 0 _ rfl; (with_reducible repeat (first | refine blk_drewN ?_ _ | refine blk_drew ?_ | refine blk_alloc ?_ _)); exact BK114.out⟩
        have n4_ : Aside0 (Below w.heap.size w ((((((((((w24.setCell ⟨gb114, 0, none⟩ (.int .u64 ((rd_T27 l0 (ji13)).f0))).setCell ⟨gb114, 1, none⟩ (.int .u64 ((rd_T27 l0 (ji13)).f1))).setCell ⟨gb114, 2, none⟩ (.string ((rd_T27 l0 (ji13)).f2))).setCell ⟨gb114, 3, none⟩ (.int .i64 ((rd_T27 l0 (ji13)).f3))).setCell ⟨gb114, 4, none⟩ (.string ((rd_T27 l0 (ji13)).f4))).setCell ⟨gb114, 5, none⟩ (.string ((rd_T27 l0 (ji13)).f5))).setCell ⟨gb114, 6, none⟩ (.int .u64 ((rd_T27 l0 (ji13)).f6))).setCell ⟨gb114, 7, none⟩ (.int .i64 ((rd_T27 l0 (ji13)).f7))).setCell ⟨gb114, 8, none⟩ (.slice A113_8 ((rd_T27 l0 (ji13)).f8).length c113_8)).setCell ⟨gb114, 9, none⟩ (.slice A113_9 ((rd_T27 l0 (ji13)).f9).length c113_9))) := ⟨by repeat (first | (with_reducible first | exact HB.out | apply below_alloc | apply pw_below_drewN | apply below_drew1 | refine below_set ?_ GE108.out | refine below_set ?_ GE109.out | refine below_set ?_ GE114.out) | exact HB.out)⟩
        (try clear HO112)
        (try clear BK108)
        (try clear BK109)
        (try clear BK114)
        (try clear HB)
        generalize ((((((((((w24.setCell ⟨gb114, 0, none⟩ (.int .u64 ((rd_T27 l0 (ji13)).f0))).setCell ⟨gb114, 1, none⟩ (.int .u64 ((rd_T27 l0 (ji13)).f1))).setCell ⟨gb114, 2, none⟩ (.string ((rd_T27 l0 (ji13)).f2))).setCell ⟨gb114, 3, none⟩ (.int .i64 ((rd_T27 l0 (ji13)).f3))).setCell ⟨gb114, 4, none⟩ (.string ((rd_T27 l0 (ji13)).f4))).setCell ⟨gb114, 5, none⟩ (.string ((rd_T27 l0 (ji13)).f5))).setCell ⟨gb114, 6, none⟩ (.int .u64 ((rd_T27 l0 (ji13)).f6))).setCell ⟨gb114, 7, none⟩ (.int .i64 ((rd_T27 l0 (ji13)).f7))).setCell ⟨gb114, 8, none⟩ (.slice A113_8 ((rd_T27 l0 (ji13)).f8).length c113_8)).setCell ⟨gb114, 9, none⟩ (.slice A113_9 ((rd_T27 l0 (ji13)).f9).length c113_9)) = w28 at n0_ n1_ n2_ n3_ n4_ ⊢
        have HO112 := n0_
        have BK108 := n1_
        have BK109 := n2_
        have BK114 := n3_
        have HB := n4_
        clear n0_ n1_ n2_ n3_ n4_
        have n0_ := Aside0.mk (Kd.R_drew HO112.out)
        have n1_ := Aside0.mk (blk_drew BK108.out)
        have n2_ := Aside0.mk (blk_drew BK109.out)
        have n3_ := Aside0.mk (blk_drew BK114.out)
        have n4_ := Aside0.mk (below_drew1 HB.out)
        clear HO112
        clear BK108
        clear BK109
        clear BK114
        clear HB
        have HO112 := n0_
        have BK108 := n1_
        have BK109 := n2_
        have BK114 := n3_
        have HB := n4_
        clear n0_ n1_ n2_ n3_ n4_
        refine start_ (n := 9) (S := fun w' => w'.cell? ⟨gb114, 0, none⟩ = some (.int .u64 ((rd_T27 l0 (ji13)).f0)) ∧ w'.cell? ⟨gb114, 1, none⟩ = some (.int .u64 ((rd_T27 l0 (ji13)).f1)) ∧ w'.cell? ⟨gb114, 2, none⟩ = some (.string ((rd_T27 l0 (ji13)).f2)) ∧ w'.cell? ⟨gb114, 3, none⟩ = some (.int .i64 ((rd_T27 l0 (ji13)).f3)) ∧ w'.cell? ⟨gb114, 4, none⟩ = some (.string ((rd_T27 l0 (ji13)).f4)) ∧ w'.cell? ⟨gb114, 5, none⟩ = some (.string ((rd_T27 l0 (ji13)).f5)) ∧ w'.cell? ⟨gb114, 6, none⟩ = some (.int .u64 ((rd_T27 l0 (ji13)).f6)) ∧ w'.cell? ⟨gb114, 7, none⟩ = some (.int .i64 ((rd_T27 l0 (ji13)).f7)) ∧ w'.cell? ⟨gb114, 8, none⟩ = some (.slice A113_8 ((rd_T27 l0 (ji13)).f8).length c113_8) ∧ w'.cell? ⟨gb114, 9, none⟩ = some (.slice A113_9 ((rd_T27 l0 (ji13)).f9).length c113_9)) (ds := []) #[false, false, false, false, false, false, false, false, false] (by kernel_rfl) rfl rfl ⟨(blk_cell BK114.out 0).trans rfl, (blk_cell BK114.out 1).trans rfl, (blk_cell BK114.out 2).trans rfl, (blk_cell BK114.out 3).trans rfl, (blk_cell BK114.out 4).trans rfl, (blk_cell BK114.out 5).trans rfl, (blk_cell BK114.out 6).trans rfl, (blk_cell BK114.out 7).trans rfl, (blk_cell BK114.out 8).trans rfl, (blk_cell BK114.out 9).trans rfl⟩ (fun hHeld => ?_); refine with_tabW audit_Next.tab6 audit_Next.bits6 (fun HT_ HW_ => ?_)
        generalize w28.drew = w29 at HO112 BK108 BK109 BK114 HB hHeld ⊢
        refine pure_ (i := 0) (N := some 22) (v := ?_) (a' := ?_) #[true, false, false, false, false, false, false, false, false] rfl rfl (any_of HT_.out (by kernel_rfl)) (fun _ _ _ h => h) (Or.inl ⟨by rfl, ?_⟩) ?_ ?_
        rotate_left
        · intro w'
          go_simp
          with_reducible rfl
        rotate_left
        · simp only [Act.put, List.setIfInBounds_toArray, List.set_cons_zero, List.set_cons_succ, i64_w, i32_w]
          rfl
        refine take_ (i := 1) (N := some 23) (v := ?_) (a' := ?_) #[true, true, false, false, false, false, false, false, false] rfl rfl (take_ofW HT_.out HW_.out (by kernel_rfl)) (fun _ _ _ h => h) (Or.inl ⟨by rfl, ?_⟩) hHeld ?_ ?_
        rotate_left
        · rintro w' ⟨s0, s1, s2, s3, s4, s5, s6, s7, s8, s9⟩
          go_simp
          with_reducible rfl
        rotate_left
        · simp only [Act.put, List.setIfInBounds_toArray, List.set_cons_zero, List.set_cons_succ, i64_w, i32_w]
          rfl
        refine pure_ (i := 2) (N := some 24) (v := ?_) (a' := ?_) #[true, true, true, false, false, false, false, false, false] rfl rfl (any_of HT_.out (by kernel_rfl)) (fun _ _ _ h => h) (Or.inl ⟨by rfl, ?_⟩) ?_ ?_
        rotate_left
        · intro w'
          go_simp
          with_reducible rfl
        rotate_left
        · simp only [Act.put, List.setIfInBounds_toArray, List.set_cons_zero, List.set_cons_succ, i64_w, i32_w]
          rfl
        refine pure_ (i := 5) (N := some 27) (v := ?_) (a' := ?_) #[true, true, true, false, false, true, false, false, false] rfl rfl (any_of HT_.out (by kernel_rfl)) (fun _ _ _ h => h) (Or.inl ⟨by rfl, ?_⟩) ?_ ?_
        rotate_left
        · intro w'
          go_simp
          with_reducible rfl
        rotate_left
        · simp only [Act.put, List.setIfInBounds_toArray, List.set_cons_zero, List.set_cons_succ, i64_w, i32_w]
          rfl
        refine take_ (i := 3) (N := some 25) (v := ?_) (a' := ?_) #[true, true, true, true, false, true, false, false, false] rfl rfl (take_ofW HT_.out HW_.out (by kernel_rfl)) (fun _ _ _ h => h) (Or.inl ⟨by rfl, ?_⟩) hHeld ?_ ?_
        rotate_left
        · rintro w' ⟨s0, s1, s2, s3, s4, s5, s6, s7, s8, s9⟩
          go_simp
          with_reducible rfl
        rotate_left
        · simp only [Act.put, List.setIfInBounds_toArray, List.set_cons_zero, List.set_cons_succ, i64_w, i32_w]
          rfl
        refine one_ (i := 4) (N := some 26) #[true, true, true, true, true, true, false, false, false] rfl rfl (one_of HT_.out (by kernel_rfl)) (by decide) (fun K hK => ?_)
        refine goes_ Try.func20 (by kernel_rfl) rfl #[.agg #[.int .u64 ((rd_T27 l0 (ji13)).f0), .int .u64 ((rd_T27 l0 (ji13)).f1), .string ((rd_T27 l0 (ji13)).f2), .int .i64 ((rd_T27 l0 (ji13)).f3), .string ((rd_T27 l0 (ji13)).f4), .string ((rd_T27 l0 (ji13)).f5), .int .u64 ((rd_T27 l0 (ji13)).f6), .int .i64 ((rd_T27 l0 (ji13)).f7), .slice A113_8 ((rd_T27 l0 (ji13)).f8).length c113_8, .slice A113_9 ((rd_T27 l0 (ji13)).f9).length c113_9]] (by rfl) rfl rfl (by (try simp only [List.map_toArray, List.map_cons, List.map_nil]); first | done | (simp only [hji13]; rfl) | rfl | (simp only [List.length_drop, List.length_take]; rfl)) ?_
        with_reducible refine (audit_Digest.calls ((rd_T27 l0 (ji13)).f0) ((rd_T27 l0 (ji13)).f1) ((rd_T27 l0 (ji13)).f2) ((rd_T27 l0 (ji13)).f3) ((rd_T27 l0 (ji13)).f4) ((rd_T27 l0 (ji13)).f5) ((rd_T27 l0 (ji13)).f6) ((rd_T27 l0 (ji13)).f7) _ _ ((rd_T27 l0 (ji13)).f8) _ _ ((rd_T27 l0 (ji13)).f9) t115 _ ?side1 ?side2 ?side3 ?side4 A16.out).mono ?_
        (case side1 => repeat (first | exact (Kd.C_below HR113_8.out HB.out) | (with_reducible refine Kd.C_alloc ?_ _) | (with_reducible refine Kd.C_drewN ?_ _) | (with_reducible refine Kd.C_drew ?_)))
        (case side2 => exact HC113_8.out)
        (case side3 => repeat (first | exact (Kd.C_below HR113_9.out HB.out) | (with_reducible refine Kd.C_alloc ?_ _) | (with_reducible refine Kd.C_drewN ?_ _) | (with_reducible refine Kd.C_drew ?_)))
        (case side4 => exact HC113_9.out)
        rintro e w30 ⟨v116, rfl, ho0, hb⟩
        refine ⟨_, rfl, ?_⟩
        have n0_ := Aside0.mk (Kd.R_elder' (by (with_reducible repeat (first | apply Kd.R_alloc | apply Kd.R_drewN | apply Kd.R_drew)); exact HO112.out) (Kd.R_base ho0) hb)
        have n1_ := Aside0.mk (Kd.R_lower (Kd.R_new' ho0 (Kd.R_lt (by (with_reducible repeat (first | apply Kd.R_alloc | apply Kd.R_drewN | apply Kd.R_drew)); exact HO112.out))) (below_size (by repeat (first | (with_reducible first | exact HB.out | apply below_alloc | apply pw_below_drewN | apply below_drew1 | refine below_set ?_ GE108.out | refine below_set ?_ GE109.out | refine below_set ?_ GE114.out) | exact HB.out))))
        have n2_ := Aside0.mk (blk_below (g := gb108) (o := .cells #[.int .u64 a1_0, .int .u64 a1_1, .string a1_2, .int .i64 a1_3, .string a1_4, .string a1_5, .int .u64 a1_6, .int .i64 a1_7, .slice Ao22 t110.length co22, .slice A1_9 l1_9.length c1_9] 27 (0, 0)) (by (with_reducible repeat (first | refine blk_drewN ?_ _ | refine blk_drew ?_ | refine blk_alloc ?_ _)); exact BK108.out) hb)
        have n3_ := Aside0.mk (blk_below (g := gb109) (o := .cells #[.int .u64 0, .int .u64 0, .string (⟨#[]⟩ : ByteArray), .int .i64 0, .string (⟨#[]⟩ : ByteArray), .string (⟨#[]⟩ : ByteArray), .int .u64 0, .int .i64 0, .slice none 0 0, .slice none 0 0] 27 (0, 0)) (by (with_reducible repeat (first | refine blk_drewN ?_ _ | refine blk_drew ?_ | refine blk_alloc ?_ _)); exact BK109.out) hb)
        have n4_ := Aside0.mk (blk_below (g := gb114) (o := .cells #[.int .u64 ((rd_T27 l0 (ji13)).f0), .int .u64 ((rd_T27 l0 (ji13)).f1), .string ((rd_T27 l0 (ji13)).f2), .int .i64 ((rd_T27 l0 (ji13)).f3), .string ((rd_T27 l0 (ji13)).f4), .string ((rd_T27 l0 (ji13)).f5), .int .u64 ((rd_T27 l0 (ji13)).f6), .int .i64 ((rd_T27 l0 (ji13)).f7), .slice A113_8 ((rd_T27 l0 (ji13)).f8).length c113_8, .slice A113_9 ((rd_T27 l0 (ji13)).f9).length c113_9] 27 (0, 0)) (by (with_reducible repeat (first | refine blk_drewN ?_ _ | refine blk_drew ?_ | refine blk_alloc ?_ _)); exact BK114.out) hb)
        have n5_ := Aside0.mk (below_step (by repeat (first | (with_reducible first | exact HB.out | apply below_alloc | apply pw_below_drewN | apply below_drew1 | refine below_set ?_ GE108.out | refine below_set ?_ GE109.out | refine below_set ?_ GE114.out) | exact HB.out)) hb)
        clear HO112
        clear BK108
        clear BK109
        clear BK114
        clear HB
        have HO112 := n0_
        have HO117 := n1_
        have BK108 := n2_
        have BK109 := n3_
        have BK114 := n4_
        have HB := n5_
        clear n0_ n1_ n2_ n3_ n4_ n5_
        (try clear hb)
        (try clear hb2)
        (try clear hk)
        (try clear hi)
        (try clear ho0)
        obtain ⟨Ao32, co32, eo32⟩ := Kd.R_slice HO117.out
        (first | subst eo32 | (injection eo32 with f1_ f2_ f3_; have f4_ := f1_.symm; have f5_ := f3_.symm; clear f1_ f2_ f3_; subst f4_; subst f5_))
        refine hK.out _ _ ⟨(blk_cell BK114.out 0).trans rfl, (blk_cell BK114.out 1).trans rfl, (blk_cell BK114.out 2).trans rfl, (blk_cell BK114.out 3).trans rfl, (blk_cell BK114.out 4).trans rfl, (blk_cell BK114.out 5).trans rfl, (blk_cell BK114.out 6).trans rfl, (blk_cell BK114.out 7).trans rfl, (blk_cell BK114.out 8).trans rfl, (blk_cell BK114.out 9).trans rfl⟩ (fun hHeld => ?_)
        clear hK K
        refine norm_ (a' := ?_) ?_ ?_
        rotate_left
        · show Act.put _ (some 26) _ = _
          simp only [Act.put, List.setIfInBounds_toArray, List.set_cons_zero, List.set_cons_succ, i64_w, i32_w]
          rfl
        refine one_ (i := 6) (N := none) #[true, true, true, true, true, true, true, false, false] rfl rfl (one_of HT_.out (by kernel_rfl)) (by decide) (fun K hK => ?_)
        have hs31 : w30.cell? ⟨gb108, 0, none⟩ = some (.int .u64 a1_0) := (blk_cell BK108.out 0).trans rfl
        have hfs31 := blk_frozen BK108.out 0
        have hns31_1 := NB109_108.out
        have hns31_2 := NB114_108.out
        have hms31_1 := NB108_109.out
        have hms31_2 := NB108_114.out
        refine skip_ (w1 := ?_) (by rfl) rfl ?_ ?_
        rotate_left
        · go_simp
          rfl
        refine hK.out _ _ ⟨((cell_far (p := ⟨gb108, _, none⟩) NB114_108.out _).trans (hHeld.1)), ((cell_far (p := ⟨gb108, _, none⟩) NB114_108.out _).trans (hHeld.2.1)), ((cell_far (p := ⟨gb108, _, none⟩) NB114_108.out _).trans (hHeld.2.2.1)), ((cell_far (p := ⟨gb108, _, none⟩) NB114_108.out _).trans (hHeld.2.2.2.1)), ((cell_far (p := ⟨gb108, _, none⟩) NB114_108.out _).trans (hHeld.2.2.2.2.1)), ((cell_far (p := ⟨gb108, _, none⟩) NB114_108.out _).trans (hHeld.2.2.2.2.2.1)), ((cell_far (p := ⟨gb108, _, none⟩) NB114_108.out _).trans (hHeld.2.2.2.2.2.2.1)), ((cell_far (p := ⟨gb108, _, none⟩) NB114_108.out _).trans (hHeld.2.2.2.2.2.2.2.1)), ((cell_far (p := ⟨gb108, _, none⟩) NB114_108.out _).trans (hHeld.2.2.2.2.2.2.2.2.1)), ((cell_far (p := ⟨gb108, _, none⟩) NB114_108.out _).trans (hHeld.2.2.2.2.2.2.2.2.2))⟩ (fun hHeld => ?_)
        clear hK K
        refine pure_ (i := 7) (N := some 28) (v := ?_) (a' := ?_) #[true, true, true, true, true, true, true, true, false] rfl rfl (any_of HT_.out (by kernel_rfl)) (fun _ _ _ h => h) (Or.inl ⟨by rfl, ?_⟩) ?_ ?_
        rotate_left
        · intro w'
          go_simp
          with_reducible rfl
        rotate_left
        · simp only [Act.put, List.setIfInBounds_toArray, List.set_cons_zero, List.set_cons_succ, i64_w, i32_w]
          rfl
        refine one_ (i := 8) (N := none) #[true, true, true, true, true, true, true, true, true] rfl rfl (one_of HT_.out (by kernel_rfl)) (by decide) (fun K hK => ?_)
        have hs33 : w30.cell? ⟨gb108, 9, none⟩ = some (.slice A1_9 l1_9.length c1_9) := (blk_cell BK108.out 9).trans rfl
        have hfs33 := blk_frozen BK108.out 9
        have hns33_1 := NB109_108.out
        have hns33_2 := NB114_108.out
        have hms33_1 := NB108_109.out
        have hms33_2 := NB108_114.out
        refine skip_ (w1 := ?_) (by rfl) rfl ?_ ?_
        rotate_left
        · go_simp
          rfl
        refine hK.out _ _ ⟨((cell_far (p := ⟨gb108, _, none⟩) NB114_108.out _).trans (hHeld.1)), ((cell_far (p := ⟨gb108, _, none⟩) NB114_108.out _).trans (hHeld.2.1)), ((cell_far (p := ⟨gb108, _, none⟩) NB114_108.out _).trans (hHeld.2.2.1)), ((cell_far (p := ⟨gb108, _, none⟩) NB114_108.out _).trans (hHeld.2.2.2.1)), ((cell_far (p := ⟨gb108, _, none⟩) NB114_108.out _).trans (hHeld.2.2.2.2.1)), ((cell_far (p := ⟨gb108, _, none⟩) NB114_108.out _).trans (hHeld.2.2.2.2.2.1)), ((cell_far (p := ⟨gb108, _, none⟩) NB114_108.out _).trans (hHeld.2.2.2.2.2.2.1)), ((cell_far (p := ⟨gb108, _, none⟩) NB114_108.out _).trans (hHeld.2.2.2.2.2.2.2.1)), ((cell_far (p := ⟨gb108, _, none⟩) NB114_108.out _).trans (hHeld.2.2.2.2.2.2.2.2.1)), ((cell_far (p := ⟨gb108, _, none⟩) NB114_108.out _).trans (hHeld.2.2.2.2.2.2.2.2.2))⟩ (fun hHeld => ?_)
        clear hK K
        refine done_ (done_of HT_.out (by kernel_rfl)) ?_
        have hcz34_0 : w30.cell? ⟨gb108, 0, none⟩ = some (.int .u64 a1_0) := (blk_cell BK108.out 0).trans rfl
        have hcz34_1 : w30.cell? ⟨gb108, 1, none⟩ = some (.int .u64 a1_1) := (blk_cell BK108.out 1).trans rfl
        have hcz34_2 : w30.cell? ⟨gb108, 2, none⟩ = some (.string a1_2) := (blk_cell BK108.out 2).trans rfl
        have hcz34_3 : w30.cell? ⟨gb108, 3, none⟩ = some (.int .i64 a1_3) := (blk_cell BK108.out 3).trans rfl
        have hcz34_4 : w30.cell? ⟨gb108, 4, none⟩ = some (.string a1_4) := (blk_cell BK108.out 4).trans rfl
        have hcz34_5 : w30.cell? ⟨gb108, 5, none⟩ = some (.string a1_5) := (blk_cell BK108.out 5).trans rfl
        have hcz34_6 : w30.cell? ⟨gb108, 6, none⟩ = some (.int .u64 a1_6) := (blk_cell BK108.out 6).trans rfl
        have hcz34_7 : w30.cell? ⟨gb108, 7, none⟩ = some (.int .i64 a1_7) := (blk_cell BK108.out 7).trans rfl
        have hcz34_8 : w30.cell? ⟨gb108, 8, none⟩ = some (.slice Ao22 t110.length co22) := (blk_cell BK108.out 8).trans rfl
        have hcz34_9 : w30.cell? ⟨gb108, 9, none⟩ = some (.slice A1_9 l1_9.length c1_9) := (blk_cell BK108.out 9).trans rfl
        have hfz34_0 := blk_frozen BK108.out 0
        have hfz34_1 := blk_frozen BK108.out 1
        have hfz34_2 := blk_frozen BK108.out 2
        have hfz34_3 := blk_frozen BK108.out 3
        have hfz34_4 := blk_frozen BK108.out 4
        have hfz34_5 := blk_frozen BK108.out 5
        have hfz34_6 := blk_frozen BK108.out 6
        have hfz34_7 := blk_frozen BK108.out 7
        have hfz34_8 := blk_frozen BK108.out 8
        have hfz34_9 := blk_frozen BK108.out 9
        have hcz35_0 : w30.cell? ⟨gb109, 0, none⟩ = some (.int .u64 0) := (blk_cell BK109.out 0).trans rfl
        have hcz35_1 : w30.cell? ⟨gb109, 1, none⟩ = some (.int .u64 0) := (blk_cell BK109.out 1).trans rfl
        have hcz35_2 : w30.cell? ⟨gb109, 2, none⟩ = some (.string (⟨#[]⟩ : ByteArray)) := (blk_cell BK109.out 2).trans rfl
        have hcz35_3 : w30.cell? ⟨gb109, 3, none⟩ = some (.int .i64 0) := (blk_cell BK109.out 3).trans rfl
        have hcz35_4 : w30.cell? ⟨gb109, 4, none⟩ = some (.string (⟨#[]⟩ : ByteArray)) := (blk_cell BK109.out 4).trans rfl
        have hcz35_5 : w30.cell? ⟨gb109, 5, none⟩ = some (.string (⟨#[]⟩ : ByteArray)) := (blk_cell BK109.out 5).trans rfl
        have hcz35_6 : w30.cell? ⟨gb109, 6, none⟩ = some (.int .u64 0) := (blk_cell BK109.out 6).trans rfl
        have hcz35_7 : w30.cell? ⟨gb109, 7, none⟩ = some (.int .i64 0) := (blk_cell BK109.out 7).trans rfl
        have hcz35_8 : w30.cell? ⟨gb109, 8, none⟩ = some (.slice none 0 0) := (blk_cell BK109.out 8).trans rfl
        have hcz35_9 : w30.cell? ⟨gb109, 9, none⟩ = some (.slice none 0 0) := (blk_cell BK109.out 9).trans rfl
        have hfz35_0 := blk_frozen BK109.out 0
        have hfz35_1 := blk_frozen BK109.out 1
        have hfz35_2 := blk_frozen BK109.out 2
        have hfz35_3 := blk_frozen BK109.out 3
        have hfz35_4 := blk_frozen BK109.out 4
        have hfz35_5 := blk_frozen BK109.out 5
        have hfz35_6 := blk_frozen BK109.out 6
        have hfz35_7 := blk_frozen BK109.out 7
        have hfz35_8 := blk_frozen BK109.out 8
        have hfz35_9 := blk_frozen BK109.out 9
        try go_wp2
        refine bodyPost_ret (results_cell_row rfl _ _ gb109 27 #[.int .u64 (IntKind.u64.wrap (((rd_T27 l0 (ji13)).f0) + 1)), .int .u64 a1_1, .string a1_2, .int .i64 a1_3, .string a1_4, .string a1_5, .int .u64 a1_6, .int .i64 a1_7, .slice Ao22 t110.length co22, .slice Ao32 t115.length co32] (0, 0) _ rfl (by (with_reducible repeat (first | refine blk_drewN ?_ _ | refine blk_drew ?_ | refine blk_alloc ?_ _)); refine blk_put (cs := #[.int .u64 (IntKind.u64.wrap (((rd_T27 l0 (ji13)).f0) + 1)), .int .u64 a1_1, .string a1_2, .int .i64 a1_3, .string a1_4, .string a1_5, .int .u64 a1_6, .int .i64 a1_7, .slice Ao22 t110.length co22, .slice none 0 0]) ?_ 9 _ rfl; (with_reducible repeat (first | refine blk_drewN ?_ _ | refine blk_drew ?_ | refine blk_alloc ?_ _)); refine blk_put (cs := #[.int .u64 (IntKind.u64.wrap (((rd_T27 l0 (ji13)).f0) + 1)), .int .u64 a1_1, .string a1_2, .int .i64 a1_3, .string a1_4, .string a1_5, .int .u64 a1_6, .int .i64 a1_7, .slice none 0 0, .slice none 0 0]) ?_ 8 _ rfl; (with_reducible repeat (first | refine blk_drewN ?_ _ | refine blk_drew ?_ | refine blk_alloc ?_ _)); refine blk_put (cs := #[.int .u64 (IntKind.u64.wrap (((rd_T27 l0 (ji13)).f0) + 1)), .int .u64 a1_1, .string a1_2, .int .i64 a1_3, .string a1_4, .string a1_5, .int .u64 a1_6, .int .i64 0, .slice none 0 0, .slice none 0 0]) ?_ 7 _ rfl; (with_reducible repeat (first | refine blk_drewN ?_ _ | refine blk_drew ?_ | refine blk_alloc ?_ _)); refine blk_put (cs := #[.int .u64 (IntKind.u64.wrap (((rd_T27 l0 (ji13)).f0) + 1)), .int .u64 a1_1, .string a1_2, .int .i64 a1_3, .string a1_4, .string a1_5, .int .u64 0, .int .i64 0, .slice none 0 0, .slice none 0 0]) ?_ 6 _ rfl; (with_reducible repeat (first | refine blk_drewN ?_ _ | refine blk_drew ?_ | refine blk_alloc ?_ _)); refine blk_put (cs := #[.int .u64 (IntKind.u64.wrap (((rd_T27 l0 (ji13)).f0) + 1)), .int .u64 a1_1, .string a1_2, .int .i64 a1_3, .string a1_4, .string (⟨#[]⟩ : ByteArray), .int .u64 0, .int .i64 0, .slice none 0 0, .slice none 0 0]) ?_ 5 _ rfl; (with_reducible repeat (first | refine blk_drewN ?_ _ | refine blk_drew ?_ | refine blk_alloc ?_ _)); refine blk_put (cs := #[.int .u64 (IntKind.u64.wrap (((rd_T27 l0 (ji13)).f0) + 1)), .int .u64 a1_1, .string a1_2, .int .i64 a1_3, .string (⟨#[]⟩ : ByteArray), .string (⟨#[]⟩ : ByteArray), .int .u64 0, .int .i64 0, .slice none 0 0, .slice none 0 0]) ?_ 4 _ rfl; (with_reducible repeat (first | refine blk_drewN ?_ _ | refine blk_drew ?_ | refine blk_alloc ?_ _)); refine blk_put (cs := #[.int .u64 (IntKind.u64.wrap (((rd_T27 l0 (ji13)).f0) + 1)), .int .u64 a1_1, .string a1_2, .int .i64 0, .string (⟨#[]⟩ : ByteArray), .string (⟨#[]⟩ : ByteArray), .int .u64 0, .int .i64 0, .slice none 0 0, .slice none 0 0]) ?_ 3 _ rfl; (with_reducible repeat (first | refine blk_drewN ?_ _ | refine blk_drew ?_ | refine blk_alloc ?_ _)); refine blk_put (cs := #[.int .u64 (IntKind.u64.wrap (((rd_T27 l0 (ji13)).f0) + 1)), .int .u64 a1_1, .string (⟨#[]⟩ : ByteArray), .int .i64 0, .string (⟨#[]⟩ : ByteArray), .string (⟨#[]⟩ : ByteArray), .int .u64 0, .int .i64 0, .slice none 0 0, .slice none 0 0]) ?_ 2 _ rfl; (with_reducible repeat (first | refine blk_drewN ?_ _ | refine blk_drew ?_ | refine blk_alloc ?_ _)); refine blk_put (cs := #[.int .u64 (IntKind.u64.wrap (((rd_T27 l0 (ji13)).f0) + 1)), .int .u64 0, .string (⟨#[]⟩ : ByteArray), .int .i64 0, .string (⟨#[]⟩ : ByteArray), .string (⟨#[]⟩ : ByteArray), .int .u64 0, .int .i64 0, .slice none 0 0, .slice none 0 0]) ?_ 1 _ rfl; (with_reducible repeat (first | refine blk_drewN ?_ _ | refine blk_drew ?_ | refine blk_alloc ?_ _)); refine blk_put (cs := #[.int .u64 0, .int .u64 0, .string (⟨#[]⟩ : ByteArray), .int .i64 0, .string (⟨#[]⟩ : ByteArray), .string (⟨#[]⟩ : ByteArray), .int .u64 0, .int .i64 0, .slice none 0 0, .slice none 0 0]) ?_ 0 _ rfl; (with_reducible repeat (first | refine blk_drewN ?_ _ | refine blk_drew ?_ | refine blk_alloc ?_ _)); refine blk_far ?_ NB109_108.out _; (with_reducible repeat (first | refine blk_drewN ?_ _ | refine blk_drew ?_ | refine blk_alloc ?_ _)); refine blk_far ?_ NB109_108.out _; (with_reducible repeat (first | refine blk_drewN ?_ _ | refine blk_drew ?_ | refine blk_alloc ?_ _)); exact BK109.out) Try.underlying27 rfl (by kernel_rfl)) rfl ?_
        exact ⟨_, _, by first | rfl | (simp [errW_none, errW_some] <;> rfl) | (simp only [← hji13]; first | rfl | (simp [errW_none, errW_some] <;> rfl)) | (simp [*, errW_none, errW_some] <;> rfl), by (with_reducible repeat (first | apply Kd.R_alloc | apply Kd.R_drewN | apply Kd.R_drew)); exact Kd.R_mono (Kd.R_far (p := ⟨gb109, 9, none⟩) (Kd.R_far (p := ⟨gb109, 8, none⟩) (Kd.R_far (p := ⟨gb109, 7, none⟩) (Kd.R_far (p := ⟨gb109, 6, none⟩) (Kd.R_far (p := ⟨gb109, 5, none⟩) (Kd.R_far (p := ⟨gb109, 4, none⟩) (Kd.R_far (p := ⟨gb109, 3, none⟩) (Kd.R_far (p := ⟨gb109, 2, none⟩) (Kd.R_far (p := ⟨gb109, 1, none⟩) (Kd.R_far (p := ⟨gb109, 0, none⟩) (Kd.R_far (p := ⟨gb108, 9, none⟩) (Kd.R_far (p := ⟨gb108, 0, none⟩) (Kd.R_types (Kd.R_types HO112.out BK108.out (by decide)) BK109.out (by decide)) (fun _ hk => hk.1.2) (.int .u64 (IntKind.u64.wrap (((rd_T27 l0 (ji13)).f0) + 1)))) (fun _ hk => hk.1.2) (.slice Ao32 t115.length co32)) (fun _ hk => hk.2) (.int .u64 (IntKind.u64.wrap (((rd_T27 l0 (ji13)).f0) + 1)))) (fun _ hk => hk.2) (.int .u64 a1_1)) (fun _ hk => hk.2) (.string a1_2)) (fun _ hk => hk.2) (.int .i64 a1_3)) (fun _ hk => hk.2) (.string a1_4)) (fun _ hk => hk.2) (.string a1_5)) (fun _ hk => hk.2) (.int .u64 a1_6)) (fun _ hk => hk.2) (.int .i64 a1_7)) (fun _ hk => hk.2) (.slice Ao22 t110.length co22)) (fun _ hk => hk.2) (.slice Ao32 t115.length co32)) (fun _ hk => hk.1.1.2), by (with_reducible repeat (first | apply Kd.R_alloc | apply Kd.R_drewN | apply Kd.R_drew)); exact Kd.R_mono (Kd.R_far (p := ⟨gb109, 9, none⟩) (Kd.R_far (p := ⟨gb109, 8, none⟩) (Kd.R_far (p := ⟨gb109, 7, none⟩) (Kd.R_far (p := ⟨gb109, 6, none⟩) (Kd.R_far (p := ⟨gb109, 5, none⟩) (Kd.R_far (p := ⟨gb109, 4, none⟩) (Kd.R_far (p := ⟨gb109, 3, none⟩) (Kd.R_far (p := ⟨gb109, 2, none⟩) (Kd.R_far (p := ⟨gb109, 1, none⟩) (Kd.R_far (p := ⟨gb109, 0, none⟩) (Kd.R_far (p := ⟨gb108, 9, none⟩) (Kd.R_far (p := ⟨gb108, 0, none⟩) (Kd.R_types (Kd.R_types HO117.out BK108.out (by decide)) BK109.out (by decide)) (fun _ hk => hk.1.2) (.int .u64 (IntKind.u64.wrap (((rd_T27 l0 (ji13)).f0) + 1)))) (fun _ hk => hk.1.2) (.slice Ao32 t115.length co32)) (fun _ hk => hk.2) (.int .u64 (IntKind.u64.wrap (((rd_T27 l0 (ji13)).f0) + 1)))) (fun _ hk => hk.2) (.int .u64 a1_1)) (fun _ hk => hk.2) (.string a1_2)) (fun _ hk => hk.2) (.int .i64 a1_3)) (fun _ hk => hk.2) (.string a1_4)) (fun _ hk => hk.2) (.string a1_5)) (fun _ hk => hk.2) (.int .u64 a1_6)) (fun _ hk => hk.2) (.int .i64 a1_7)) (fun _ hk => hk.2) (.slice Ao22 t110.length co22)) (fun _ hk => hk.2) (.slice Ao32 t115.length co32)) (fun _ hk => hk.1.1.2), by repeat (first | (with_reducible first | exact HB.out | apply below_alloc | apply pw_below_drewN | apply below_drew1 | refine below_set ?_ GE108.out | refine below_set ?_ GE109.out | refine below_set ?_ GE114.out) | exact HB.out)⟩
      · rw [if_neg c15] at H
        exact absurd H (by simp)
    · rw [if_neg c14] at H
      exact absurd H (by simp)

/-! ### audit_whole: function 51 -/
def audit_whole.f (l0 : List Int) : Option (Bool) := if (l0.length : Int) = 0 then (some true) else (some ((l0.length : Int) == 32))
set_option maxHeartbeats 8000000 in
set_option maxRecDepth 100000 in
theorem audit_whole.calls (A0 : Option Addr) (c0 : Nat) (l0 : List Int) (r : Bool) (w : World) (hr0 : Kd.C (Kd.int .u8) w A0 l0.length l0) (hc0 : l0.length ≤ c0) (h : audit_whole.f l0 = some r) :
    Calls Try.prog 51 #[.slice A0 l0.length c0] w fun e w' => e = .returned (.bool r) ∧ Drawn0 w w' := by
  have HR0 := Aside0.mk hr0
  have HC0 := Aside0.mk hc0
  clear hr0 hc0
  have H : (if (l0.length : Int) = 0 then (some true) else (some ((l0.length : Int) == 32))) = some r := h
  clear h
  by_cases c2 : (l0.length : Int) = 0
  · rw [if_pos c2] at H
    have c2b0 : ((l0.length : Int) == 0) = true := beq_iff_eq.mpr c2
    have c2b1 : ((l0.length : Int) != 0) = false := bne_eq_false_iff_eq.mpr c2
    clear c2
    obtain rfl := Option.some.inj H
    go_enter Try.func51, Try.ntmps51
    go_wp2
    go_ret
    exact ⟨by first | rfl | (simp; done) | (simp [*]; done), by repeat (first | exact Drawn0.refl _ | apply Drawn0.step)⟩
  · rw [if_neg c2] at H
    have c2b0 : ((l0.length : Int) == 0) = false := beq_eq_false_iff_ne.mpr c2
    have c2b1 : ((l0.length : Int) != 0) = true := bne_iff_ne.mpr c2
    have c2b2 : ¬ (l0 = []) := fun h_ => c2 (by rw [h_]; rfl)
    obtain rfl := Option.some.inj H
    go_enter Try.func51, Try.ntmps51
    go_wp2
    go_ret
    exact ⟨by first | rfl | (simp; done) | (simp [*]; done), by repeat (first | exact Drawn0.refl _ | apply Drawn0.step)⟩

/-! ### audit_right: function 27 -/
def audit_right.j0 : Nat → Bool → Int → Int → ByteArray → Int → ByteArray → ByteArray → Int → Int → List Int → List Int → Option (Bool)
  | 0, _, _, _, _, _, _, _, _, _, _, _ => none
  | k + 1, x3, x119000, x119001, x119002, x119003, x119004, x119005, x119006, x119007, x119008, x119009 => if x3 = true then (some false) else (if x119003 < 0 then (some false) else (if x119003 > 19 then (some false) else (if x119007 < 0 then (some false) else (if x119007 > 9999 then (some false) else (if (x119002.size : Int) ≤ 16 then (if (x119004.size : Int) ≤ 16 then (some (decide ((x119005.size : Int) ≤ 48))) else (some false)) else (some false))))))
def audit_right.f (k : Nat) (a0_0 : Int) (a0_1 : Int) (a0_2 : ByteArray) (a0_3 : Int) (a0_4 : ByteArray) (a0_5 : ByteArray) (a0_6 : Int) (a0_7 : Int) (l0_8 : List Int) (l0_9 : List Int) : Option (Bool) := if a0_0 = 0 then (audit_right.j0 k (a0_0 == 0) a0_0 a0_1 a0_2 a0_3 a0_4 a0_5 a0_6 a0_7 l0_8 l0_9) else (if ((a0_0 == 1) != ((l0_9.length : Int) == 0)) = true then (audit_right.j0 k ((a0_0 == 1) != ((l0_9.length : Int) == 0)) a0_0 a0_1 a0_2 a0_3 a0_4 a0_5 a0_6 a0_7 l0_8 l0_9) else ((audit_whole.f l0_9).bind fun t119 => (if t119 = true then ((audit_whole.f l0_8).bind fun t120 => (audit_right.j0 k (!t120) a0_0 a0_1 a0_2 a0_3 a0_4 a0_5 a0_6 a0_7 l0_8 l0_9)) else (audit_right.j0 k (!t119) a0_0 a0_1 a0_2 a0_3 a0_4 a0_5 a0_6 a0_7 l0_8 l0_9))))
theorem audit_right.mono_l : ∀ k, (∀ y0 y1 y2 y3 y4 y5 y6 y7 y8 y9 y10, LeO (audit_right.j0 k y0 y1 y2 y3 y4 y5 y6 y7 y8 y9 y10) (audit_right.j0 (k + 1) y0 y1 y2 y3 y4 y5 y6 y7 y8 y9 y10))
  | 0 => fun _ _ _ _ _ _ _ _ _ _ _ r h => by simp [audit_right.j0] at h
  | k + 1 => by
    have ih0 := audit_right.mono_l k
    · intro y0 y1 y2 y3 y4 y5 y6 y7 y8 y9 y10
      unfold audit_right.j0
      repeat' first
      | (with_reducible exact ih0 _ _ _ _ _ _ _ _ _ _ _)
      | (with_reducible exact LeO.refl _)
      | (with_reducible exact LeO.none _)
      | (with_reducible refine LeO.ite ?_ ?_)
      | (with_reducible refine LeO.bind ?_ (fun _ => ?_))
      | exact ih0 _ _ _ _ _ _ _ _ _ _ _
      | exact LeO.none _
      | refine LeO.ite ?_ ?_
      | refine LeO.bind ?_ (fun _ => ?_)
theorem audit_right.mono : ∀ a0 a1 a2 a3 a4 a5 a6 a7 a8 a9 k, LeO (audit_right.f k a0 a1 a2 a3 a4 a5 a6 a7 a8 a9) (audit_right.f (k + 1) a0 a1 a2 a3 a4 a5 a6 a7 a8 a9) := by
  intro a0 a1 a2 a3 a4 a5 a6 a7 a8 a9 k
  have ih0 := audit_right.mono_l k
  unfold audit_right.f
  repeat' first
      | (with_reducible exact ih0 _ _ _ _ _ _ _ _ _ _ _)
      | (with_reducible exact LeO.refl _)
      | (with_reducible exact LeO.none _)
      | (with_reducible refine LeO.ite ?_ ?_)
      | (with_reducible refine LeO.bind ?_ (fun _ => ?_))
      | exact ih0 _ _ _ _ _ _ _ _ _ _ _
      | exact LeO.none _
      | refine LeO.ite ?_ ?_
      | refine LeO.bind ?_ (fun _ => ?_)
set_option maxHeartbeats 8000000 in
set_option maxRecDepth 100000 in
theorem audit_right.calls (k : Nat) (a0_0 : Int) (a0_1 : Int) (a0_2 : ByteArray) (a0_3 : Int) (a0_4 : ByteArray) (a0_5 : ByteArray) (a0_6 : Int) (a0_7 : Int) (A0_8 : Option Addr) (c0_8 : Nat) (l0_8 : List Int) (A0_9 : Option Addr) (c0_9 : Nat) (l0_9 : List Int) (r : Bool) (w : World) (hr0_8 : Kd.C (Kd.int .u8) w A0_8 l0_8.length l0_8) (hc0_8 : l0_8.length ≤ c0_8) (hr0_9 : Kd.C (Kd.int .u8) w A0_9 l0_9.length l0_9) (hc0_9 : l0_9.length ≤ c0_9) (h : audit_right.f k a0_0 a0_1 a0_2 a0_3 a0_4 a0_5 a0_6 a0_7 l0_8 l0_9 = some r) :
    Calls Try.prog 27 #[.agg #[.int .u64 a0_0, .int .u64 a0_1, .string a0_2, .int .i64 a0_3, .string a0_4, .string a0_5, .int .u64 a0_6, .int .i64 a0_7, .slice A0_8 l0_8.length c0_8, .slice A0_9 l0_9.length c0_9]] w fun e w' => e = .returned (.bool r) ∧ Below w.heap.size w w' := by
  have hu27 := Try.underlying27
  have HR0_8 := Aside0.mk hr0_8
  have HC0_8 := Aside0.mk hc0_8
  clear hr0_8 hc0_8
  have HR0_9 := Aside0.mk hr0_9
  have HC0_9 := Aside0.mk hc0_9
  clear hr0_9 hc0_9
  have HB := Aside0.mk (Below.refl w.heap.size w)
  have H : (if a0_0 = 0 then (audit_right.j0 k (a0_0 == 0) a0_0 a0_1 a0_2 a0_3 a0_4 a0_5 a0_6 a0_7 l0_8 l0_9) else (if ((a0_0 == 1) != ((l0_9.length : Int) == 0)) = true then (audit_right.j0 k ((a0_0 == 1) != ((l0_9.length : Int) == 0)) a0_0 a0_1 a0_2 a0_3 a0_4 a0_5 a0_6 a0_7 l0_8 l0_9) else ((audit_whole.f l0_9).bind fun t119 => (if t119 = true then ((audit_whole.f l0_8).bind fun t120 => (audit_right.j0 k (!t120) a0_0 a0_1 a0_2 a0_3 a0_4 a0_5 a0_6 a0_7 l0_8 l0_9)) else (audit_right.j0 k (!t119) a0_0 a0_1 a0_2 a0_3 a0_4 a0_5 a0_6 a0_7 l0_8 l0_9))))) = some r := h
  clear h
  have HC2 := Aside0.mk H
  clear H
  go_enter Try.func27, Try.ntmps27
  go_upto_if 3 with (first | ((with_reducible refine gate_dst (N := 1) rfl ?_); (try (refine gate_guard (by rfl) ?_; dsimp only)); refine box_event ?hg (N := 1) ?hd (cs := #[.int .u64 a0_0, .int .u64 a0_1, .string a0_2, .int .i64 a0_3, .string a0_4, .string a0_5, .int .u64 a0_6, .int .i64 a0_7, .slice A0_8 l0_8.length c0_8, .slice A0_9 l0_9.length c0_9]) (t := 27) ?hr ?_; (case hd => rfl); (case hg => rfl); (case hr => first | (go_simp; done) | (go_simp; rfl)); intro gb118 hg w3 hbox hb; have n0_ := Aside0.mk (below_step (by repeat (first | (with_reducible first | exact HB.out | apply below_alloc | apply pw_below_drewN | apply below_drew1) | exact HB.out)) hb); have n1_ := Aside0.mk (hbox); have n2_ := Aside0.mk ((by rw [hg]; exact (below_size (by repeat (first | (with_reducible first | exact HB.out | apply below_alloc | apply pw_below_drewN | apply below_drew1) | exact HB.out))) : w.heap.size ≤ gb118)); have n3_ := Aside0.mk ((by rw [hg]; exact (below_size (by repeat (first | (with_reducible first | exact HB.out | apply below_alloc | apply pw_below_drewN | apply below_drew1) | exact HB.out))) : w.heap.size ≤ gb118)); clear HB; have HB := n0_; have BK118 := n1_; have GW118 := n2_; have GE118 := n3_; clear n0_ n1_ n2_ n3_; clear hb hbox hg; have hcz4_0 : w3.cell? ⟨gb118, 0, none⟩ = some (.int .u64 a0_0) := (blk_cell BK118.out 0).trans rfl; have hcz4_1 : w3.cell? ⟨gb118, 1, none⟩ = some (.int .u64 a0_1) := (blk_cell BK118.out 1).trans rfl; have hcz4_2 : w3.cell? ⟨gb118, 2, none⟩ = some (.string a0_2) := (blk_cell BK118.out 2).trans rfl; have hcz4_3 : w3.cell? ⟨gb118, 3, none⟩ = some (.int .i64 a0_3) := (blk_cell BK118.out 3).trans rfl; have hcz4_4 : w3.cell? ⟨gb118, 4, none⟩ = some (.string a0_4) := (blk_cell BK118.out 4).trans rfl; have hcz4_5 : w3.cell? ⟨gb118, 5, none⟩ = some (.string a0_5) := (blk_cell BK118.out 5).trans rfl; have hcz4_6 : w3.cell? ⟨gb118, 6, none⟩ = some (.int .u64 a0_6) := (blk_cell BK118.out 6).trans rfl; have hcz4_7 : w3.cell? ⟨gb118, 7, none⟩ = some (.int .i64 a0_7) := (blk_cell BK118.out 7).trans rfl; have hcz4_8 : w3.cell? ⟨gb118, 8, none⟩ = some (.slice A0_8 l0_8.length c0_8) := (blk_cell BK118.out 8).trans rfl; have hcz4_9 : w3.cell? ⟨gb118, 9, none⟩ = some (.slice A0_9 l0_9.length c0_9) := (blk_cell BK118.out 9).trans rfl; have hfz4_0 := blk_frozen BK118.out 0; have hfz4_1 := blk_frozen BK118.out 1; have hfz4_2 := blk_frozen BK118.out 2; have hfz4_3 := blk_frozen BK118.out 3; have hfz4_4 := blk_frozen BK118.out 4; have hfz4_5 := blk_frozen BK118.out 5; have hfz4_6 := blk_frozen BK118.out 6; have hfz4_7 := blk_frozen BK118.out 7; have hfz4_8 := blk_frozen BK118.out 8; have hfz4_9 := blk_frozen BK118.out 9))
  (try simp only [Act.put, List.setIfInBounds_toArray, List.set_cons_zero, List.set_cons_succ])
  go_cut [3] (fun v3 wc => ∃ (kq : Nat) (x3_1 : Bool), v3 = .bool x3_1 ∧ Aside0 (audit_right.j0 kq x3_1 a0_0 a0_1 a0_2 a0_3 a0_4 a0_5 a0_6 a0_7 l0_8 l0_9 = some r) ∧ Aside0 (kq ≤ k) ∧ Aside0 (wc.heap[gb118]? = some (.cells #[.int .u64 a0_0, .int .u64 a0_1, .string a0_2, .int .i64 a0_3, .string a0_4, .string a0_5, .int .u64 a0_6, .int .i64 a0_7, (.slice A0_8 l0_8.length c0_8), (.slice A0_9 l0_9.length c0_9)] 27 (0, 0))) ∧ Aside0 (Below w.heap.size w wc))
  case first =>
    have H := HC2.out
    clear HC2
    by_cases c5 : a0_0 = 0
    · rw [if_pos c5] at H
      have c5b0 : (a0_0 == 0) = true := beq_iff_eq.mpr c5
      have c5b1 : (a0_0 != 0) = false := bne_eq_false_iff_eq.mpr c5
      clear c5
      (first | rw [c5b0] | (simp only [i64_w, i32_w]; rw [c5b0]) | skip)
      have H' := Aside0.mk H
      clear H
      go_wp2
      go_meet
      case rel => exact ⟨_, ((a0_0 == 0)), (by first | rfl | (simp; done) | (simp [*]; done)), H', ⟨by first | omega | exact Nat.le_refl _⟩, ⟨by (with_reducible repeat (first | refine blk_drewN ?_ _ | refine blk_drew ?_ | refine blk_alloc ?_ _)); exact BK118.out⟩, ⟨by repeat (first | (with_reducible first | exact HB.out | apply below_alloc | apply pw_below_drewN | apply below_drew1 | refine below_set ?_ GE118.out) | exact HB.out)⟩⟩
    · rw [if_neg c5] at H
      have c5b0 : (a0_0 == 0) = false := beq_eq_false_iff_ne.mpr c5
      have c5b1 : (a0_0 != 0) = true := bne_iff_ne.mpr c5
      (first | rw [c5b0] | (simp only [i64_w, i32_w]; rw [c5b0]) | skip)
      by_cases c6 : ((a0_0 == 1) != ((l0_9.length : Int) == 0)) = true
      · rw [if_pos c6] at H
        have c6b0 : ((a0_0 == 1) != ((l0_9.length : Int) == 0)) = true := c6
        (try (have c6b1 : decide ((a0_0 == 1) = ((l0_9.length : Int) == 0)) = false := by simpa using c6))
        (try (have c6b2 : ((a0_0 == 1) == ((l0_9.length : Int) == 0)) = false := by simpa using c6))
        (try (have c6b3 : ¬ ((a0_0 == 1) = ((l0_9.length : Int) == 0)) := by simpa using c6))
        clear c6
        have H' := Aside0.mk H
        clear H
        have hcz7_0 : w3.cell? ⟨gb118, 0, none⟩ = some (.int .u64 a0_0) := (blk_cell BK118.out 0).trans rfl
        have hcz7_1 : w3.cell? ⟨gb118, 1, none⟩ = some (.int .u64 a0_1) := (blk_cell BK118.out 1).trans rfl
        have hcz7_2 : w3.cell? ⟨gb118, 2, none⟩ = some (.string a0_2) := (blk_cell BK118.out 2).trans rfl
        have hcz7_3 : w3.cell? ⟨gb118, 3, none⟩ = some (.int .i64 a0_3) := (blk_cell BK118.out 3).trans rfl
        have hcz7_4 : w3.cell? ⟨gb118, 4, none⟩ = some (.string a0_4) := (blk_cell BK118.out 4).trans rfl
        have hcz7_5 : w3.cell? ⟨gb118, 5, none⟩ = some (.string a0_5) := (blk_cell BK118.out 5).trans rfl
        have hcz7_6 : w3.cell? ⟨gb118, 6, none⟩ = some (.int .u64 a0_6) := (blk_cell BK118.out 6).trans rfl
        have hcz7_7 : w3.cell? ⟨gb118, 7, none⟩ = some (.int .i64 a0_7) := (blk_cell BK118.out 7).trans rfl
        have hcz7_8 : w3.cell? ⟨gb118, 8, none⟩ = some (.slice A0_8 l0_8.length c0_8) := (blk_cell BK118.out 8).trans rfl
        have hcz7_9 : w3.cell? ⟨gb118, 9, none⟩ = some (.slice A0_9 l0_9.length c0_9) := (blk_cell BK118.out 9).trans rfl
        have hfz7_0 := blk_frozen BK118.out 0
        have hfz7_1 := blk_frozen BK118.out 1
        have hfz7_2 := blk_frozen BK118.out 2
        have hfz7_3 := blk_frozen BK118.out 3
        have hfz7_4 := blk_frozen BK118.out 4
        have hfz7_5 := blk_frozen BK118.out 5
        have hfz7_6 := blk_frozen BK118.out 6
        have hfz7_7 := blk_frozen BK118.out 7
        have hfz7_8 := blk_frozen BK118.out 8
        have hfz7_9 := blk_frozen BK118.out 9
        go_wp2
        go_meet
        case rel => exact ⟨_, (((a0_0 == 1) != ((l0_9.length : Int) == 0))), (by first | rfl | (simp; done) | (simp [*]; done)), H', ⟨by first | omega | exact Nat.le_refl _⟩, ⟨by (with_reducible repeat (first | refine blk_drewN ?_ _ | refine blk_drew ?_ | refine blk_alloc ?_ _)); exact BK118.out⟩, ⟨by repeat (first | (with_reducible first | exact HB.out | apply below_alloc | apply pw_below_drewN | apply below_drew1 | refine below_set ?_ GE118.out) | exact HB.out)⟩⟩
      · rw [if_neg c6] at H
        have c6b0 : ((a0_0 == 1) != ((l0_9.length : Int) == 0)) = false := by simpa using c6
        (try (have c6b1 : decide ((a0_0 == 1) = ((l0_9.length : Int) == 0)) = true := by simpa using c6))
        (try (have c6b2 : ((a0_0 == 1) == ((l0_9.length : Int) == 0)) = true := by simpa using c6))
        clear c6
        replace H := Option.bind_eq_some_iff.mp H
        obtain ⟨t119, A80, H⟩ := H
        replace H : (if t119 = true then ((audit_whole.f l0_8).bind fun t120 => (audit_right.j0 k (!t120) a0_0 a0_1 a0_2 a0_3 a0_4 a0_5 a0_6 a0_7 l0_8 l0_9)) else (audit_right.j0 k (!t119) a0_0 a0_1 a0_2 a0_3 a0_4 a0_5 a0_6 a0_7 l0_8 l0_9)) = some r := H
        have A8 := Aside0.mk A80
        clear A80
        by_cases c9 : t119 = true
        · subst c9
          have H1 : ((audit_whole.f l0_8).bind fun t120 => (audit_right.j0 k (!t120) a0_0 a0_1 a0_2 a0_3 a0_4 a0_5 a0_6 a0_7 l0_8 l0_9)) = some r := by rw [if_pos rfl] at H; exact H
          clear H
          have H := H1
          clear H1
          replace H := Option.bind_eq_some_iff.mp H
          obtain ⟨t120, A100, H⟩ := H
          replace H : (audit_right.j0 k (!t120) a0_0 a0_1 a0_2 a0_3 a0_4 a0_5 a0_6 a0_7 l0_8 l0_9) = some r := H
          have A10 := Aside0.mk A100
          clear A100
          have H' := Aside0.mk H
          clear H
          have hcz11_0 : w3.cell? ⟨gb118, 0, none⟩ = some (.int .u64 a0_0) := (blk_cell BK118.out 0).trans rfl
          have hcz11_1 : w3.cell? ⟨gb118, 1, none⟩ = some (.int .u64 a0_1) := (blk_cell BK118.out 1).trans rfl
          have hcz11_2 : w3.cell? ⟨gb118, 2, none⟩ = some (.string a0_2) := (blk_cell BK118.out 2).trans rfl
          have hcz11_3 : w3.cell? ⟨gb118, 3, none⟩ = some (.int .i64 a0_3) := (blk_cell BK118.out 3).trans rfl
          have hcz11_4 : w3.cell? ⟨gb118, 4, none⟩ = some (.string a0_4) := (blk_cell BK118.out 4).trans rfl
          have hcz11_5 : w3.cell? ⟨gb118, 5, none⟩ = some (.string a0_5) := (blk_cell BK118.out 5).trans rfl
          have hcz11_6 : w3.cell? ⟨gb118, 6, none⟩ = some (.int .u64 a0_6) := (blk_cell BK118.out 6).trans rfl
          have hcz11_7 : w3.cell? ⟨gb118, 7, none⟩ = some (.int .i64 a0_7) := (blk_cell BK118.out 7).trans rfl
          have hcz11_8 : w3.cell? ⟨gb118, 8, none⟩ = some (.slice A0_8 l0_8.length c0_8) := (blk_cell BK118.out 8).trans rfl
          have hcz11_9 : w3.cell? ⟨gb118, 9, none⟩ = some (.slice A0_9 l0_9.length c0_9) := (blk_cell BK118.out 9).trans rfl
          have hfz11_0 := blk_frozen BK118.out 0
          have hfz11_1 := blk_frozen BK118.out 1
          have hfz11_2 := blk_frozen BK118.out 2
          have hfz11_3 := blk_frozen BK118.out 3
          have hfz11_4 := blk_frozen BK118.out 4
          have hfz11_5 := blk_frozen BK118.out 5
          have hfz11_6 := blk_frozen BK118.out 6
          have hfz11_7 := blk_frozen BK118.out 7
          have hfz11_8 := blk_frozen BK118.out 8
          have hfz11_9 := blk_frozen BK118.out 9
          go_wp2_with (first | ((with_reducible refine gate_callee (f := 51) rfl ?_); refine goesL_ (some 17) rfl rfl Try.func51 (by kernel_rfl) rfl #[.slice A0_9 l0_9.length c0_9] rfl (by (try simp only [List.map_toArray, List.map_cons, List.map_nil]); first | done | rfl | (simp only [List.length_drop, List.length_take]; rfl)) ?_; (with_reducible refine (audit_whole.calls _ _ l0_9 true _ ?side1 ?side2 A8.out).mono ?_); (case side1 => repeat (first | exact (Kd.C_below HR0_9.out HB.out) | (with_reducible refine Kd.C_alloc ?_ _) | (with_reducible refine Kd.C_drewN ?_ _) | (with_reducible refine Kd.C_drew ?_))); (case side2 => exact HC0_9.out); rintro e w' ⟨rfl, ⟨nd, rfl⟩⟩; refine ⟨_, rfl, ?_⟩) | ((with_reducible refine gate_callee (f := 51) rfl ?_); refine goesL_ (some 21) rfl rfl Try.func51 (by kernel_rfl) rfl #[.slice A0_8 l0_8.length c0_8] rfl (by (try simp only [List.map_toArray, List.map_cons, List.map_nil]); first | done | rfl | (simp only [List.length_drop, List.length_take]; rfl)) ?_; (with_reducible refine (audit_whole.calls _ _ l0_8 t120 _ ?side1 ?side2 A10.out).mono ?_); (case side1 => repeat (first | exact (Kd.C_below HR0_8.out (by repeat (first | (with_reducible first | exact HB.out | apply below_alloc | apply pw_below_drewN | apply below_drew1 | refine below_set ?_ GE118.out) | exact HB.out))) | (with_reducible refine Kd.C_alloc ?_ _) | (with_reducible refine Kd.C_drewN ?_ _) | (with_reducible refine Kd.C_drew ?_))); (case side2 => exact HC0_8.out); rintro e w' ⟨rfl, ⟨nd, rfl⟩⟩; refine ⟨_, rfl, ?_⟩))
          go_meet
          case rel => exact ⟨_, (!t120), (by first | rfl | (simp; done) | (simp [*]; done)), H', ⟨by first | omega | exact Nat.le_refl _⟩, ⟨by (with_reducible repeat (first | refine blk_drewN ?_ _ | refine blk_drew ?_ | refine blk_alloc ?_ _)); exact BK118.out⟩, ⟨by repeat (first | (with_reducible first | exact HB.out | apply below_alloc | apply pw_below_drewN | apply below_drew1 | refine below_set ?_ GE118.out) | exact HB.out)⟩⟩
        · replace c9 := Bool.eq_false_iff.mpr c9
          subst c9
          have H1 : (audit_right.j0 k (!false) a0_0 a0_1 a0_2 a0_3 a0_4 a0_5 a0_6 a0_7 l0_8 l0_9) = some r := by rw [if_neg (show ¬ (false = true) by decide)] at H; exact H
          clear H
          have H := H1
          clear H1
          have H' := Aside0.mk H
          clear H
          have hcz12_0 : w3.cell? ⟨gb118, 0, none⟩ = some (.int .u64 a0_0) := (blk_cell BK118.out 0).trans rfl
          have hcz12_1 : w3.cell? ⟨gb118, 1, none⟩ = some (.int .u64 a0_1) := (blk_cell BK118.out 1).trans rfl
          have hcz12_2 : w3.cell? ⟨gb118, 2, none⟩ = some (.string a0_2) := (blk_cell BK118.out 2).trans rfl
          have hcz12_3 : w3.cell? ⟨gb118, 3, none⟩ = some (.int .i64 a0_3) := (blk_cell BK118.out 3).trans rfl
          have hcz12_4 : w3.cell? ⟨gb118, 4, none⟩ = some (.string a0_4) := (blk_cell BK118.out 4).trans rfl
          have hcz12_5 : w3.cell? ⟨gb118, 5, none⟩ = some (.string a0_5) := (blk_cell BK118.out 5).trans rfl
          have hcz12_6 : w3.cell? ⟨gb118, 6, none⟩ = some (.int .u64 a0_6) := (blk_cell BK118.out 6).trans rfl
          have hcz12_7 : w3.cell? ⟨gb118, 7, none⟩ = some (.int .i64 a0_7) := (blk_cell BK118.out 7).trans rfl
          have hcz12_8 : w3.cell? ⟨gb118, 8, none⟩ = some (.slice A0_8 l0_8.length c0_8) := (blk_cell BK118.out 8).trans rfl
          have hcz12_9 : w3.cell? ⟨gb118, 9, none⟩ = some (.slice A0_9 l0_9.length c0_9) := (blk_cell BK118.out 9).trans rfl
          have hfz12_0 := blk_frozen BK118.out 0
          have hfz12_1 := blk_frozen BK118.out 1
          have hfz12_2 := blk_frozen BK118.out 2
          have hfz12_3 := blk_frozen BK118.out 3
          have hfz12_4 := blk_frozen BK118.out 4
          have hfz12_5 := blk_frozen BK118.out 5
          have hfz12_6 := blk_frozen BK118.out 6
          have hfz12_7 := blk_frozen BK118.out 7
          have hfz12_8 := blk_frozen BK118.out 8
          have hfz12_9 := blk_frozen BK118.out 9
          go_wp2_with (first | ((with_reducible refine gate_callee (f := 51) rfl ?_); refine goesL_ (some 17) rfl rfl Try.func51 (by kernel_rfl) rfl #[.slice A0_9 l0_9.length c0_9] rfl (by (try simp only [List.map_toArray, List.map_cons, List.map_nil]); first | done | rfl | (simp only [List.length_drop, List.length_take]; rfl)) ?_; (with_reducible refine (audit_whole.calls _ _ l0_9 false _ ?side1 ?side2 A8.out).mono ?_); (case side1 => repeat (first | exact (Kd.C_below HR0_9.out HB.out) | (with_reducible refine Kd.C_alloc ?_ _) | (with_reducible refine Kd.C_drewN ?_ _) | (with_reducible refine Kd.C_drew ?_))); (case side2 => exact HC0_9.out); rintro e w' ⟨rfl, ⟨nd, rfl⟩⟩; refine ⟨_, rfl, ?_⟩))
          go_meet
          case rel => exact ⟨_, (!false), (by first | rfl | (simp; done) | (simp [*]; done)), H', ⟨by first | omega | exact Nat.le_refl _⟩, ⟨by (with_reducible repeat (first | refine blk_drewN ?_ _ | refine blk_drew ?_ | refine blk_alloc ?_ _)); exact BK118.out⟩, ⟨by repeat (first | (with_reducible first | exact HB.out | apply below_alloc | apply pw_below_drewN | apply below_drew1 | refine below_set ?_ GE118.out) | exact HB.out)⟩⟩
  case rest =>
    clear HC2
    try clear c2
    try clear p2
    try clear c5
    try clear c5b0
    try clear c5b1
    try clear c6
    try clear c6b0
    try clear c6b1
    try clear c6b2
    try clear c9
    try clear hcz11_0
    try clear hcz11_1
    try clear hcz11_2
    try clear hcz11_3
    try clear hcz11_4
    try clear hcz11_5
    try clear hcz11_6
    try clear hcz11_7
    try clear hcz11_8
    try clear hcz11_9
    try clear hcz12_0
    try clear hcz12_1
    try clear hcz12_2
    try clear hcz12_3
    try clear hcz12_4
    try clear hcz12_5
    try clear hcz12_6
    try clear hcz12_7
    try clear hcz12_8
    try clear hcz12_9
    try clear hcz4_0
    try clear hcz4_1
    try clear hcz4_2
    try clear hcz4_3
    try clear hcz4_4
    try clear hcz4_5
    try clear hcz4_6
    try clear hcz4_7
    try clear hcz4_8
    try clear hcz4_9
    try clear hcz7_0
    try clear hcz7_1
    try clear hcz7_2
    try clear hcz7_3
    try clear hcz7_4
    try clear hcz7_5
    try clear hcz7_6
    try clear hcz7_7
    try clear hcz7_8
    try clear hcz7_9
    try clear hfz11_0
    try clear hfz11_1
    try clear hfz11_2
    try clear hfz11_3
    try clear hfz11_4
    try clear hfz11_5
    try clear hfz11_6
    try clear hfz11_7
    try clear hfz11_8
    try clear hfz11_9
    try clear hfz12_0
    try clear hfz12_1
    try clear hfz12_2
    try clear hfz12_3
    try clear hfz12_4
    try clear hfz12_5
    try clear hfz12_6
    try clear hfz12_7
    try clear hfz12_8
    try clear hfz12_9
    try clear hfz4_0
    try clear hfz4_1
    try clear hfz4_2
    try clear hfz4_3
    try clear hfz4_4
    try clear hfz4_5
    try clear hfz4_6
    try clear hfz4_7
    try clear hfz4_8
    try clear hfz4_9
    try clear hfz7_0
    try clear hfz7_1
    try clear hfz7_2
    try clear hfz7_3
    try clear hfz7_4
    try clear hfz7_5
    try clear hfz7_6
    try clear hfz7_7
    try clear hfz7_8
    try clear hfz7_9
    obtain ⟨kq, x3_1, rfl, HA, HJ1, BK118, HB⟩ := hcut
    cases kq with
    | zero => exact absurd HA.out (by simp [audit_right.j0])
    | succ kj1 =>
      have H := HA.out
      clear HA
      simp only [audit_right.j0] at H
      by_cases c13 : x3_1 = true
      · subst c13
        have H1 : (some false) = some r := by rw [if_pos rfl] at H; exact H
        clear H
        have H := H1
        clear H1
        obtain rfl := Option.some.inj H
        go_wp2
        go_ret
        exact ⟨by first | rfl | (simp [errW_none, errW_some] <;> rfl) | (simp [*, errW_none, errW_some] <;> rfl), by repeat (first | (with_reducible first | exact HB.out | apply below_alloc | apply pw_below_drewN | apply below_drew1 | refine below_set ?_ GE118.out) | exact HB.out)⟩
      · replace c13 := Bool.eq_false_iff.mpr c13
        subst c13
        have H1 : (if a0_3 < 0 then (some false) else (if a0_3 > 19 then (some false) else (if a0_7 < 0 then (some false) else (if a0_7 > 9999 then (some false) else (if (a0_2.size : Int) ≤ 16 then (if (a0_4.size : Int) ≤ 16 then (some (decide ((a0_5.size : Int) ≤ 48))) else (some false)) else (some false)))))) = some r := by rw [if_neg (show ¬ (false = true) by decide)] at H; exact H
        clear H
        have H := H1
        clear H1
        by_cases c14 : a0_3 < 0
        · rw [if_pos c14] at H
          have c14b0 : decide (a0_3 < 0) = true := decide_eq_true c14
          clear c14
          obtain rfl := Option.some.inj H
          have hcz15_0 : wc.cell? ⟨gb118, 0, none⟩ = some (.int .u64 a0_0) := (blk_cell BK118.out 0).trans rfl
          have hcz15_1 : wc.cell? ⟨gb118, 1, none⟩ = some (.int .u64 a0_1) := (blk_cell BK118.out 1).trans rfl
          have hcz15_2 : wc.cell? ⟨gb118, 2, none⟩ = some (.string a0_2) := (blk_cell BK118.out 2).trans rfl
          have hcz15_3 : wc.cell? ⟨gb118, 3, none⟩ = some (.int .i64 a0_3) := (blk_cell BK118.out 3).trans rfl
          have hcz15_4 : wc.cell? ⟨gb118, 4, none⟩ = some (.string a0_4) := (blk_cell BK118.out 4).trans rfl
          have hcz15_5 : wc.cell? ⟨gb118, 5, none⟩ = some (.string a0_5) := (blk_cell BK118.out 5).trans rfl
          have hcz15_6 : wc.cell? ⟨gb118, 6, none⟩ = some (.int .u64 a0_6) := (blk_cell BK118.out 6).trans rfl
          have hcz15_7 : wc.cell? ⟨gb118, 7, none⟩ = some (.int .i64 a0_7) := (blk_cell BK118.out 7).trans rfl
          have hcz15_8 : wc.cell? ⟨gb118, 8, none⟩ = some (.slice A0_8 l0_8.length c0_8) := (blk_cell BK118.out 8).trans rfl
          have hcz15_9 : wc.cell? ⟨gb118, 9, none⟩ = some (.slice A0_9 l0_9.length c0_9) := (blk_cell BK118.out 9).trans rfl
          have hfz15_0 := blk_frozen BK118.out 0
          have hfz15_1 := blk_frozen BK118.out 1
          have hfz15_2 := blk_frozen BK118.out 2
          have hfz15_3 := blk_frozen BK118.out 3
          have hfz15_4 := blk_frozen BK118.out 4
          have hfz15_5 := blk_frozen BK118.out 5
          have hfz15_6 := blk_frozen BK118.out 6
          have hfz15_7 := blk_frozen BK118.out 7
          have hfz15_8 := blk_frozen BK118.out 8
          have hfz15_9 := blk_frozen BK118.out 9
          go_wp2
          go_ret
          exact ⟨by first | rfl | (simp [errW_none, errW_some] <;> rfl) | (simp [*, errW_none, errW_some] <;> rfl), by repeat (first | (with_reducible first | exact HB.out | apply below_alloc | apply pw_below_drewN | apply below_drew1 | refine below_set ?_ GE118.out) | exact HB.out)⟩
        · rw [if_neg c14] at H
          have c14b0 : decide (a0_3 < 0) = false := decide_eq_false c14
          clear c14
          by_cases c16 : a0_3 > 19
          · rw [if_pos c16] at H
            have c16b0 : decide (19 < a0_3) = true := decide_eq_true c16
            clear c16
            obtain rfl := Option.some.inj H
            have hcz17_0 : wc.cell? ⟨gb118, 0, none⟩ = some (.int .u64 a0_0) := (blk_cell BK118.out 0).trans rfl
            have hcz17_1 : wc.cell? ⟨gb118, 1, none⟩ = some (.int .u64 a0_1) := (blk_cell BK118.out 1).trans rfl
            have hcz17_2 : wc.cell? ⟨gb118, 2, none⟩ = some (.string a0_2) := (blk_cell BK118.out 2).trans rfl
            have hcz17_3 : wc.cell? ⟨gb118, 3, none⟩ = some (.int .i64 a0_3) := (blk_cell BK118.out 3).trans rfl
            have hcz17_4 : wc.cell? ⟨gb118, 4, none⟩ = some (.string a0_4) := (blk_cell BK118.out 4).trans rfl
            have hcz17_5 : wc.cell? ⟨gb118, 5, none⟩ = some (.string a0_5) := (blk_cell BK118.out 5).trans rfl
            have hcz17_6 : wc.cell? ⟨gb118, 6, none⟩ = some (.int .u64 a0_6) := (blk_cell BK118.out 6).trans rfl
            have hcz17_7 : wc.cell? ⟨gb118, 7, none⟩ = some (.int .i64 a0_7) := (blk_cell BK118.out 7).trans rfl
            have hcz17_8 : wc.cell? ⟨gb118, 8, none⟩ = some (.slice A0_8 l0_8.length c0_8) := (blk_cell BK118.out 8).trans rfl
            have hcz17_9 : wc.cell? ⟨gb118, 9, none⟩ = some (.slice A0_9 l0_9.length c0_9) := (blk_cell BK118.out 9).trans rfl
            have hfz17_0 := blk_frozen BK118.out 0
            have hfz17_1 := blk_frozen BK118.out 1
            have hfz17_2 := blk_frozen BK118.out 2
            have hfz17_3 := blk_frozen BK118.out 3
            have hfz17_4 := blk_frozen BK118.out 4
            have hfz17_5 := blk_frozen BK118.out 5
            have hfz17_6 := blk_frozen BK118.out 6
            have hfz17_7 := blk_frozen BK118.out 7
            have hfz17_8 := blk_frozen BK118.out 8
            have hfz17_9 := blk_frozen BK118.out 9
            go_wp2
            go_ret
            exact ⟨by first | rfl | (simp [errW_none, errW_some] <;> rfl) | (simp [*, errW_none, errW_some] <;> rfl), by repeat (first | (with_reducible first | exact HB.out | apply below_alloc | apply pw_below_drewN | apply below_drew1 | refine below_set ?_ GE118.out) | exact HB.out)⟩
          · rw [if_neg c16] at H
            have c16b0 : decide (19 < a0_3) = false := decide_eq_false c16
            clear c16
            by_cases c18 : a0_7 < 0
            · rw [if_pos c18] at H
              have c18b0 : decide (a0_7 < 0) = true := decide_eq_true c18
              clear c18
              obtain rfl := Option.some.inj H
              have hcz19_0 : wc.cell? ⟨gb118, 0, none⟩ = some (.int .u64 a0_0) := (blk_cell BK118.out 0).trans rfl
              have hcz19_1 : wc.cell? ⟨gb118, 1, none⟩ = some (.int .u64 a0_1) := (blk_cell BK118.out 1).trans rfl
              have hcz19_2 : wc.cell? ⟨gb118, 2, none⟩ = some (.string a0_2) := (blk_cell BK118.out 2).trans rfl
              have hcz19_3 : wc.cell? ⟨gb118, 3, none⟩ = some (.int .i64 a0_3) := (blk_cell BK118.out 3).trans rfl
              have hcz19_4 : wc.cell? ⟨gb118, 4, none⟩ = some (.string a0_4) := (blk_cell BK118.out 4).trans rfl
              have hcz19_5 : wc.cell? ⟨gb118, 5, none⟩ = some (.string a0_5) := (blk_cell BK118.out 5).trans rfl
              have hcz19_6 : wc.cell? ⟨gb118, 6, none⟩ = some (.int .u64 a0_6) := (blk_cell BK118.out 6).trans rfl
              have hcz19_7 : wc.cell? ⟨gb118, 7, none⟩ = some (.int .i64 a0_7) := (blk_cell BK118.out 7).trans rfl
              have hcz19_8 : wc.cell? ⟨gb118, 8, none⟩ = some (.slice A0_8 l0_8.length c0_8) := (blk_cell BK118.out 8).trans rfl
              have hcz19_9 : wc.cell? ⟨gb118, 9, none⟩ = some (.slice A0_9 l0_9.length c0_9) := (blk_cell BK118.out 9).trans rfl
              have hfz19_0 := blk_frozen BK118.out 0
              have hfz19_1 := blk_frozen BK118.out 1
              have hfz19_2 := blk_frozen BK118.out 2
              have hfz19_3 := blk_frozen BK118.out 3
              have hfz19_4 := blk_frozen BK118.out 4
              have hfz19_5 := blk_frozen BK118.out 5
              have hfz19_6 := blk_frozen BK118.out 6
              have hfz19_7 := blk_frozen BK118.out 7
              have hfz19_8 := blk_frozen BK118.out 8
              have hfz19_9 := blk_frozen BK118.out 9
              go_wp2
              go_ret
              exact ⟨by first | rfl | (simp [errW_none, errW_some] <;> rfl) | (simp [*, errW_none, errW_some] <;> rfl), by repeat (first | (with_reducible first | exact HB.out | apply below_alloc | apply pw_below_drewN | apply below_drew1 | refine below_set ?_ GE118.out) | exact HB.out)⟩
            · rw [if_neg c18] at H
              have c18b0 : decide (a0_7 < 0) = false := decide_eq_false c18
              clear c18
              by_cases c20 : a0_7 > 9999
              · rw [if_pos c20] at H
                have c20b0 : decide (9999 < a0_7) = true := decide_eq_true c20
                clear c20
                obtain rfl := Option.some.inj H
                have hcz21_0 : wc.cell? ⟨gb118, 0, none⟩ = some (.int .u64 a0_0) := (blk_cell BK118.out 0).trans rfl
                have hcz21_1 : wc.cell? ⟨gb118, 1, none⟩ = some (.int .u64 a0_1) := (blk_cell BK118.out 1).trans rfl
                have hcz21_2 : wc.cell? ⟨gb118, 2, none⟩ = some (.string a0_2) := (blk_cell BK118.out 2).trans rfl
                have hcz21_3 : wc.cell? ⟨gb118, 3, none⟩ = some (.int .i64 a0_3) := (blk_cell BK118.out 3).trans rfl
                have hcz21_4 : wc.cell? ⟨gb118, 4, none⟩ = some (.string a0_4) := (blk_cell BK118.out 4).trans rfl
                have hcz21_5 : wc.cell? ⟨gb118, 5, none⟩ = some (.string a0_5) := (blk_cell BK118.out 5).trans rfl
                have hcz21_6 : wc.cell? ⟨gb118, 6, none⟩ = some (.int .u64 a0_6) := (blk_cell BK118.out 6).trans rfl
                have hcz21_7 : wc.cell? ⟨gb118, 7, none⟩ = some (.int .i64 a0_7) := (blk_cell BK118.out 7).trans rfl
                have hcz21_8 : wc.cell? ⟨gb118, 8, none⟩ = some (.slice A0_8 l0_8.length c0_8) := (blk_cell BK118.out 8).trans rfl
                have hcz21_9 : wc.cell? ⟨gb118, 9, none⟩ = some (.slice A0_9 l0_9.length c0_9) := (blk_cell BK118.out 9).trans rfl
                have hfz21_0 := blk_frozen BK118.out 0
                have hfz21_1 := blk_frozen BK118.out 1
                have hfz21_2 := blk_frozen BK118.out 2
                have hfz21_3 := blk_frozen BK118.out 3
                have hfz21_4 := blk_frozen BK118.out 4
                have hfz21_5 := blk_frozen BK118.out 5
                have hfz21_6 := blk_frozen BK118.out 6
                have hfz21_7 := blk_frozen BK118.out 7
                have hfz21_8 := blk_frozen BK118.out 8
                have hfz21_9 := blk_frozen BK118.out 9
                go_wp2
                go_ret
                exact ⟨by first | rfl | (simp [errW_none, errW_some] <;> rfl) | (simp [*, errW_none, errW_some] <;> rfl), by repeat (first | (with_reducible first | exact HB.out | apply below_alloc | apply pw_below_drewN | apply below_drew1 | refine below_set ?_ GE118.out) | exact HB.out)⟩
              · rw [if_neg c20] at H
                have c20b0 : decide (9999 < a0_7) = false := decide_eq_false c20
                clear c20
                by_cases c22 : (a0_2.size : Int) ≤ 16
                · rw [if_pos c22] at H
                  have c22b0 : decide ((a0_2.size : Int) ≤ 16) = true := decide_eq_true c22
                  have c22b1 : decide (a0_2.size ≤ 16) = true := decide_eq_true (by omega)
                  clear c22
                  by_cases c23 : (a0_4.size : Int) ≤ 16
                  · rw [if_pos c23] at H
                    have c23b0 : decide ((a0_4.size : Int) ≤ 16) = true := decide_eq_true c23
                    have c23b1 : decide (a0_4.size ≤ 16) = true := decide_eq_true (by omega)
                    clear c23
                    obtain rfl := Option.some.inj H
                    have hcz24_0 : wc.cell? ⟨gb118, 0, none⟩ = some (.int .u64 a0_0) := (blk_cell BK118.out 0).trans rfl
                    have hcz24_1 : wc.cell? ⟨gb118, 1, none⟩ = some (.int .u64 a0_1) := (blk_cell BK118.out 1).trans rfl
                    have hcz24_2 : wc.cell? ⟨gb118, 2, none⟩ = some (.string a0_2) := (blk_cell BK118.out 2).trans rfl
                    have hcz24_3 : wc.cell? ⟨gb118, 3, none⟩ = some (.int .i64 a0_3) := (blk_cell BK118.out 3).trans rfl
                    have hcz24_4 : wc.cell? ⟨gb118, 4, none⟩ = some (.string a0_4) := (blk_cell BK118.out 4).trans rfl
                    have hcz24_5 : wc.cell? ⟨gb118, 5, none⟩ = some (.string a0_5) := (blk_cell BK118.out 5).trans rfl
                    have hcz24_6 : wc.cell? ⟨gb118, 6, none⟩ = some (.int .u64 a0_6) := (blk_cell BK118.out 6).trans rfl
                    have hcz24_7 : wc.cell? ⟨gb118, 7, none⟩ = some (.int .i64 a0_7) := (blk_cell BK118.out 7).trans rfl
                    have hcz24_8 : wc.cell? ⟨gb118, 8, none⟩ = some (.slice A0_8 l0_8.length c0_8) := (blk_cell BK118.out 8).trans rfl
                    have hcz24_9 : wc.cell? ⟨gb118, 9, none⟩ = some (.slice A0_9 l0_9.length c0_9) := (blk_cell BK118.out 9).trans rfl
                    have hfz24_0 := blk_frozen BK118.out 0
                    have hfz24_1 := blk_frozen BK118.out 1
                    have hfz24_2 := blk_frozen BK118.out 2
                    have hfz24_3 := blk_frozen BK118.out 3
                    have hfz24_4 := blk_frozen BK118.out 4
                    have hfz24_5 := blk_frozen BK118.out 5
                    have hfz24_6 := blk_frozen BK118.out 6
                    have hfz24_7 := blk_frozen BK118.out 7
                    have hfz24_8 := blk_frozen BK118.out 8
                    have hfz24_9 := blk_frozen BK118.out 9
                    go_wp2
                    go_ret
                    exact ⟨by first | rfl | (simp [errW_none, errW_some] <;> rfl) | (simp [*, errW_none, errW_some] <;> rfl), by repeat (first | (with_reducible first | exact HB.out | apply below_alloc | apply pw_below_drewN | apply below_drew1 | refine below_set ?_ GE118.out) | exact HB.out)⟩
                  · rw [if_neg c23] at H
                    have c23b0 : decide ((a0_4.size : Int) ≤ 16) = false := decide_eq_false c23
                    have c23b1 : decide (a0_4.size ≤ 16) = false := decide_eq_false (by omega)
                    clear c23
                    obtain rfl := Option.some.inj H
                    have hcz25_0 : wc.cell? ⟨gb118, 0, none⟩ = some (.int .u64 a0_0) := (blk_cell BK118.out 0).trans rfl
                    have hcz25_1 : wc.cell? ⟨gb118, 1, none⟩ = some (.int .u64 a0_1) := (blk_cell BK118.out 1).trans rfl
                    have hcz25_2 : wc.cell? ⟨gb118, 2, none⟩ = some (.string a0_2) := (blk_cell BK118.out 2).trans rfl
                    have hcz25_3 : wc.cell? ⟨gb118, 3, none⟩ = some (.int .i64 a0_3) := (blk_cell BK118.out 3).trans rfl
                    have hcz25_4 : wc.cell? ⟨gb118, 4, none⟩ = some (.string a0_4) := (blk_cell BK118.out 4).trans rfl
                    have hcz25_5 : wc.cell? ⟨gb118, 5, none⟩ = some (.string a0_5) := (blk_cell BK118.out 5).trans rfl
                    have hcz25_6 : wc.cell? ⟨gb118, 6, none⟩ = some (.int .u64 a0_6) := (blk_cell BK118.out 6).trans rfl
                    have hcz25_7 : wc.cell? ⟨gb118, 7, none⟩ = some (.int .i64 a0_7) := (blk_cell BK118.out 7).trans rfl
                    have hcz25_8 : wc.cell? ⟨gb118, 8, none⟩ = some (.slice A0_8 l0_8.length c0_8) := (blk_cell BK118.out 8).trans rfl
                    have hcz25_9 : wc.cell? ⟨gb118, 9, none⟩ = some (.slice A0_9 l0_9.length c0_9) := (blk_cell BK118.out 9).trans rfl
                    have hfz25_0 := blk_frozen BK118.out 0
                    have hfz25_1 := blk_frozen BK118.out 1
                    have hfz25_2 := blk_frozen BK118.out 2
                    have hfz25_3 := blk_frozen BK118.out 3
                    have hfz25_4 := blk_frozen BK118.out 4
                    have hfz25_5 := blk_frozen BK118.out 5
                    have hfz25_6 := blk_frozen BK118.out 6
                    have hfz25_7 := blk_frozen BK118.out 7
                    have hfz25_8 := blk_frozen BK118.out 8
                    have hfz25_9 := blk_frozen BK118.out 9
                    go_wp2
                    go_ret
                    exact ⟨by first | rfl | (simp [errW_none, errW_some] <;> rfl) | (simp [*, errW_none, errW_some] <;> rfl), by repeat (first | (with_reducible first | exact HB.out | apply below_alloc | apply pw_below_drewN | apply below_drew1 | refine below_set ?_ GE118.out) | exact HB.out)⟩
                · rw [if_neg c22] at H
                  have c22b0 : decide ((a0_2.size : Int) ≤ 16) = false := decide_eq_false c22
                  have c22b1 : decide (a0_2.size ≤ 16) = false := decide_eq_false (by omega)
                  clear c22
                  obtain rfl := Option.some.inj H
                  have hcz26_0 : wc.cell? ⟨gb118, 0, none⟩ = some (.int .u64 a0_0) := (blk_cell BK118.out 0).trans rfl
                  have hcz26_1 : wc.cell? ⟨gb118, 1, none⟩ = some (.int .u64 a0_1) := (blk_cell BK118.out 1).trans rfl
                  have hcz26_2 : wc.cell? ⟨gb118, 2, none⟩ = some (.string a0_2) := (blk_cell BK118.out 2).trans rfl
                  have hcz26_3 : wc.cell? ⟨gb118, 3, none⟩ = some (.int .i64 a0_3) := (blk_cell BK118.out 3).trans rfl
                  have hcz26_4 : wc.cell? ⟨gb118, 4, none⟩ = some (.string a0_4) := (blk_cell BK118.out 4).trans rfl
                  have hcz26_5 : wc.cell? ⟨gb118, 5, none⟩ = some (.string a0_5) := (blk_cell BK118.out 5).trans rfl
                  have hcz26_6 : wc.cell? ⟨gb118, 6, none⟩ = some (.int .u64 a0_6) := (blk_cell BK118.out 6).trans rfl
                  have hcz26_7 : wc.cell? ⟨gb118, 7, none⟩ = some (.int .i64 a0_7) := (blk_cell BK118.out 7).trans rfl
                  have hcz26_8 : wc.cell? ⟨gb118, 8, none⟩ = some (.slice A0_8 l0_8.length c0_8) := (blk_cell BK118.out 8).trans rfl
                  have hcz26_9 : wc.cell? ⟨gb118, 9, none⟩ = some (.slice A0_9 l0_9.length c0_9) := (blk_cell BK118.out 9).trans rfl
                  have hfz26_0 := blk_frozen BK118.out 0
                  have hfz26_1 := blk_frozen BK118.out 1
                  have hfz26_2 := blk_frozen BK118.out 2
                  have hfz26_3 := blk_frozen BK118.out 3
                  have hfz26_4 := blk_frozen BK118.out 4
                  have hfz26_5 := blk_frozen BK118.out 5
                  have hfz26_6 := blk_frozen BK118.out 6
                  have hfz26_7 := blk_frozen BK118.out 7
                  have hfz26_8 := blk_frozen BK118.out 8
                  have hfz26_9 := blk_frozen BK118.out 9
                  go_wp2
                  go_ret
                  exact ⟨by first | rfl | (simp [errW_none, errW_some] <;> rfl) | (simp [*, errW_none, errW_some] <;> rfl), by repeat (first | (with_reducible first | exact HB.out | apply below_alloc | apply pw_below_drewN | apply below_drew1 | refine below_set ?_ GE118.out) | exact HB.out)⟩

end Go.Proofs.Ytjnakhgpenafdaa.P14
