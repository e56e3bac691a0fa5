/- steleref14.Read: what it reads of bytes; both Reads as the print calls them. -/
import Derived.Test.YtjnakhgpenafdaaRda
import Derived.Test.YtjnakhgpenafdaaRd2
namespace Go.Proofs.Ytjnakhgpenafdaa
open Go.RowKit Go.Proofs.YtjnakhgpenafdaaW.PrintWords Go.Proofs.YtjnakhgpenafdaaW.PrintMore Go.Proofs.Ytjnakhgpenafdaa.P14
set_option linter.unusedVariables false
set_option linter.unusedSimpArgs false
/-- a reader at g, and ahead of it the cell of the result -/
structure RT (w0 w : World) (g : Nat) (A : Option Addr) (n c : Nat) (B : List UInt8) (p : Nat) (bad : Bool) : Prop where
  rd : RdS w0.heap.size w g A n c B p bad
  below : Below w0.heap.size w0 w
  gt : w0.heap.size < g
  zb : Blk w w0.heap.size 27 zrec
section
variable {w0 w w' : World} {g : Nat} {A : Option Addr} {n c : Nat} {B : List UInt8} {p p' : Nat} {bad bad' : Bool}
theorem RT.goes (h : RT w0 w g A n c B p bad) (hr : RdS w0.heap.size w' g A n c B p' bad') (hg : w.grownBy w' (some g)) : RT w0 w' g A n c B p' bad' :=
  ⟨hr, h.below.grown hg h.below.size (fun k hk => by injection hk with hk; have := h.gt; omega), h.gt, h.zb.grown hg (fun e => by injection e with e; have := h.gt; omega)⟩
theorem RT.grown {q : Nat} (h : RT w0 w g A n c B p bad) (hg : w.grownBy w' (some q)) (hq : g < q) : RT w0 w' g A n c B p bad :=
  ⟨h.rd.grown hg (fun e => by injection e with e; omega) (fun k hk => by injection hk with hk; have := h.gt; omega), h.below.grown hg h.below.size (fun k hk => by injection hk with hk; have := h.gt; omega), h.gt, h.zb.grown hg (fun e => by injection e with e; have := h.gt; omega)⟩
theorem RT.far {q : Nat} (h : RT w0 w g A n c B p bad) (hq : g < q) (i : Nat) (u : Value) : RT w0 (w.setCell ⟨q, i, none⟩ u) g A n c B p bad := h.grown (only_set (World.grownBy.refl w _) i u) hq
theorem RT.alloc (h : RT w0 w g A n c B p bad) (o : Obj) : RT w0 (w.alloc o) g A n c B p bad := ⟨h.rd.alloc o, h.below.alloc h.below.size _, h.gt, h.zb.alloc _⟩
theorem RT.drewN (h : RT w0 w g A n c B p bad) (k : Nat) : RT w0 (w.drewN k) g A n c B p bad := ⟨h.rd.drewN k, below_drewN h.below k, h.gt, h.zb⟩
theorem RT.uint {x : Nat} (h : RT w0 w g A n c B p bad) (hn : n ≤ 140737488351232) (e : uOut B p bad = (x, p', bad')) :
    Calls Try.prog 47 #[.pointer (some ⟨g, 0, none⟩)] w fun e w' => e = .returned (.int .u64 (x : Int)) ∧ RT w0 w' g A n c B p' bad' ∧ w.grownBy w' (some g) := by
  refine (ruintR_any h.rd hn).mono fun e' w' hh => ?_
  rw [e] at hh
  exact ⟨hh.1, h.goes hh.2.1 hh.2.2, hh.2.2⟩
theorem RT.text {x : List UInt8} (h : RT w0 w g A n c B p bad) (hn : n ≤ 140737488351232) (e : sOut 115 B p bad = (x, p', bad')) :
    Calls Try.prog 48 #[.pointer (some ⟨g, 0, none⟩)] w fun e w' => e = .returned (.string ⟨x.toArray⟩) ∧ RT w0 w' g A n c B p' bad' ∧ w.grownBy w' (some g) := by
  refine (rtextR_any h.rd hn).mono fun e' w' hh => ?_
  rw [e] at hh
  exact ⟨hh.1, h.goes hh.2.1 hh.2.2, hh.2.2⟩
theorem RT.bytes {x : List UInt8} (h : RT w0 w g A n c B p bad) (hn : n ≤ 140737488351232) (e : sOut 98 B p bad = (x, p', bad')) :
    Calls Try.prog 49 #[.pointer (some ⟨g, 0, none⟩)] w fun e w' => ∃ A1 c1, e = .returned (.slice A1 (i8s x).length c1) ∧ Row8 w' w.heap.size A1 c1 x ∧ RT w0 w' g A n c B p' bad' ∧ w.grownBy w' (some g) := by
  refine (rbytesR_any h.rd hn).mono fun e' w' hh => ?_
  rw [e] at hh
  obtain ⟨A1, n1, c1, e1, ho, hr, hg⟩ := hh
  obtain rfl : (i8s x).length = n1 := by rw [i8s_length]; exact own_bytes_length ho
  exact ⟨A1, c1, e1, ho, h.goes hr hg, hg⟩
end
theorem restB_off {x4 x8 : Nat} (h : 19 < x4 ∨ 9999 < x8) (a b c : Nat) : restB (x4 : Int) (x8 : Int) a b c = false := by unfold restB; exact decide_eq_false (by omega)
set_option maxRecDepth 100000 in
set_option maxHeartbeats 6400000 in
theorem rread_walk {w : World} {A : Option Addr} {n c : Nat} {B : List UInt8} (hr : Reads w w.heap.size 1 A n (B8 B)) (hc : n ≤ c) (hn : n ≤ 140737488351232)
    {x1 x2 x4 x7 x8 : Nat} {t3 t5 t6 b9 b10 : List UInt8} {p1 p2 p3 p4 p5 p6 p7 p8 p9 p10 : Nat} {d1 d2 d3 d4 d5 d6 d7 d8 d9 d10 : Bool} (hx4 : x4 < 18446744073709551616) (hx8 : x8 < 18446744073709551616)
    (e1 : uOut B 0 false = (x1, p1, d1)) (e2 : uOut B p1 d1 = (x2, p2, d2)) (e3 : sOut 115 B p2 d2 = (t3, p3, d3)) (e4 : uOut B p3 d3 = (x4, p4, d4)) (e5 : sOut 115 B p4 d4 = (t5, p5, d5)) (e6 : sOut 115 B p5 d5 = (t6, p6, d6))
    (e7 : uOut B p6 d6 = (x7, p7, d7)) (e8 : uOut B p7 d7 = (x8, p8, d8)) (e9 : sOut 98 B p8 d8 = (b9, p9, d9)) (e10 : sOut 98 B p9 d9 = (b10, p10, d10)) :
    Calls Try.prog 25 #[.slice A n c] w (RetRec w (recOf ⟨x1, x2, t3, x4, t5, t6, x7, x8, b9, b10, B.drop p10, d10⟩)) := by
  have hu := Try.underlying27
  have hu2 : Try.prog.underlying 27 = _ := hu
  have hu3 := Try.underlying68
  have HE := Lib.hid (And.intro e1 (And.intro e2 (And.intro e3 (And.intro e4 (And.intro e5 (And.intro e6 (And.intro e7 (And.intro e8 (And.intro e9 e10)))))))))
  clear e1 e2 e3 e4 e5 e6 e7 e8 e9 e10
  have H := Lib.hid (And.intro hr hc)
  clear hr hc
  go_enter Try.func25, Try.ntmps25
  go_wp2_with (first
    | (refine wpList_alloc_blk (o := ⟨some 2, _, _, _, _, _⟩) (by rfl) 27 (by rfl) _ w.heap.size (by rfl) alloc_zrec ?_)
    | ((with_reducible refine gate_dst (N := 10) rfl ?_); refine box_event ?hg (N := 10) ?hd (cs := #[.slice A n c, .int .i64 ((0 : Nat) : Int), .bool false]) (t := 68) ?hr ?_; (case hd => rfl); (case hg => rfl); (case hr => first | (go_simp; done) | (go_simp; rfl)); intro g hg w2 hbox hb; have H2 := Lib.hid (show RT w w2 g A n c B 0 false from ⟨⟨hbox, (H.out.1.alloc (Nat.le_refl _) _).grown (only_of_below hb none) (by simp) (by simp), by rw [hg]; simp, H.out.2, Nat.zero_le _⟩, below_then ((Below.refl _ _).alloc (Nat.le_refl _) _) hb, by rw [hg]; simp, (Blk.new w _ _).after hb⟩); clear hg hbox hb)
    | (refine wpList_alloc_blk (o := ⟨some 5, _, _, _, _, _⟩) (by rfl) 27 (by rfl) _ w2.heap.size (by rfl) alloc_zrec ?_)
    | (refine wpList_store_blk (o := ⟨none, _, _, _, _, _⟩) (by rfl) 27 (.tmp 5) (.tmp 11) (by rfl) w2.heap.size 27 zrec zrec (by rfl) (by rfl) (Blk.new_ w2 27 _ rfl) (by rfl) (size_ten _ rfl) (one_ten _ _ _ _ _ _ _ _) ?_; intro w3 hK3 hg3 hz3; have H3 := Lib.hid (And.intro ((H2.out.alloc (.cells zrec 27)).grown hg3 H2.out.rd.lt) hK3); clear hK3 hg3 hz3)
    | fail)
  obtain ⟨q, hq⟩ : ∃ q, w2.heap.size = q := ⟨_, rfl⟩
  have hgq : g < q := by rw [← hq]; exact H2.out.rd.lt
  rw [hq] at H3
  simp only [hq]
  clear hq H2
  refine (H3.out.1.uint hn HE.out.1).mono ?_
  rintro e w4 ⟨rfl, h4, hg4⟩
  have hK4 := H3.out.2.grown hg4 (fun e => by injection e with e; omega)
  have kc : w4.cell? ⟨q, 0, none⟩ = some (.int .u64 0) := hK4.cell 0
  have kf := hK4.frozen 0
  have H4 := Lib.hid (And.intro (h4.far hgq 0 (.int .u64 (x1 : Int))) (hK4.set_ 0 (.int .u64 (x1 : Int))))
  clear h4 hg4 hK4
  go_wp2_with fail
  clear kc kf
  refine (H4.out.1.uint hn HE.out.2.1).mono ?_
  rintro e w5 ⟨rfl, h5, hg5⟩
  have hK5 := H4.out.2.grown hg5 (fun e => by injection e with e; omega)
  have kc : w5.cell? ⟨q, 1, none⟩ = some (.int .u64 0) := hK5.cell 1
  have kf := hK5.frozen 1
  have H5 := Lib.hid (And.intro (h5.far hgq 1 (.int .u64 (x2 : Int))) (hK5.set_ 1 (.int .u64 (x2 : Int))))
  clear h5 hg5 hK5
  go_wp2_with fail
  clear kc kf
  refine (H5.out.1.text hn HE.out.2.2.1).mono ?_
  rintro e w6 ⟨rfl, h6, hg6⟩
  have hK6 := H5.out.2.grown hg6 (fun e => by injection e with e; omega)
  have kc : w6.cell? ⟨q, 2, none⟩ = some (.string ⟨#[]⟩) := hK6.cell 2
  have kf := hK6.frozen 2
  have H6 := Lib.hid (And.intro (h6.far hgq 2 (.string ⟨t3.toArray⟩)) (hK6.set_ 2 (.string ⟨t3.toArray⟩)))
  clear h6 hg6 hK6
  go_wp2_with fail
  clear kc kf
  refine (H6.out.1.uint hn HE.out.2.2.2.1).mono ?_
  rintro e w7 ⟨rfl, h7, hg7⟩
  have hK7 := H6.out.2.grown hg7 (fun e => by injection e with e; omega)
  have H7 := Lib.hid (And.intro h7 hK7)
  clear h7 hg7 hK7
  go_wp2_with fail
  refine (H7.out.1.text hn HE.out.2.2.2.2.1).mono ?_
  rintro e w8 ⟨rfl, h8, hg8⟩
  have hK8 := H7.out.2.grown hg8 (fun e => by injection e with e; omega)
  have kc : w8.cell? ⟨q, 4, none⟩ = some (.string ⟨#[]⟩) := hK8.cell 4
  have kf := hK8.frozen 4
  have H8 := Lib.hid (And.intro (h8.far hgq 4 (.string ⟨t5.toArray⟩)) (hK8.set_ 4 (.string ⟨t5.toArray⟩)))
  clear h8 hg8 hK8
  go_wp2_with fail
  clear kc kf
  refine (H8.out.1.text hn HE.out.2.2.2.2.2.1).mono ?_
  rintro e w9 ⟨rfl, h9, hg9⟩
  have hK9 := H8.out.2.grown hg9 (fun e => by injection e with e; omega)
  have kc : w9.cell? ⟨q, 5, none⟩ = some (.string ⟨#[]⟩) := hK9.cell 5
  have kf := hK9.frozen 5
  have H9 := Lib.hid (And.intro (h9.far hgq 5 (.string ⟨t6.toArray⟩)) (hK9.set_ 5 (.string ⟨t6.toArray⟩)))
  clear h9 hg9 hK9
  go_wp2_with fail
  clear kc kf
  refine (H9.out.1.uint hn HE.out.2.2.2.2.2.2.1).mono ?_
  rintro e w10 ⟨rfl, h10, hg10⟩
  have hK10 := H9.out.2.grown hg10 (fun e => by injection e with e; omega)
  have kc : w10.cell? ⟨q, 6, none⟩ = some (.int .u64 0) := hK10.cell 6
  have kf := hK10.frozen 6
  have H10 := Lib.hid (And.intro (h10.far hgq 6 (.int .u64 (x7 : Int))) (hK10.set_ 6 (.int .u64 (x7 : Int))))
  clear h10 hg10 hK10
  go_wp2_with fail
  clear kc kf
  refine (H10.out.1.uint hn HE.out.2.2.2.2.2.2.2.1).mono ?_
  rintro e w11 ⟨rfl, h11, hg11⟩
  have hK11 := H10.out.2.grown hg11 (fun e => by injection e with e; omega)
  have H11 := Lib.hid (And.intro h11 hK11)
  clear h11 hg11 hK11
  go_wp2_with fail
  refine (H11.out.1.bytes hn HE.out.2.2.2.2.2.2.2.2.1).mono ?_
  rintro e w12 ⟨A8, c8, rfl, ho8, h12, hg12⟩
  have hK12 := H11.out.2.grown hg12 (fun e => by injection e with e; omega)
  have kc : w12.cell? ⟨q, 8, none⟩ = some (.slice none 0 0) := hK12.cell 8
  have kf := hK12.frozen 8
  have n8 : ∀ k, (Value.slice A8 (i8s b9).length c8).ownBlock = some k → q < k ∧ k < w12.heap.size := fun k hk => by have := ho8.rng hk; have := H11.out.2.lt; omega
  have r8 : Row8 w12 w.heap.size A8 c8 b9 := own_base_le ho8 H11.out.1.below.size
  have H12 := Lib.hid (And.intro (h12.far hgq 8 (.slice A8 (i8s b9).length c8)) (And.intro (hK12.set_ 8 (.slice A8 (i8s b9).length c8)) (And.intro (r8.far (fun k e => (n8 k e).1) 8 (.slice A8 (i8s b9).length c8)) n8)))
  have hs12 : (w12.setCell ⟨q, 8, none⟩ (.slice A8 (i8s b9).length c8)).heap.size = w12.heap.size := by simp
  clear h12 hg12 hK12 n8 r8 ho8
  go_wp2_with fail
  clear kc kf
  refine (H12.out.1.bytes hn HE.out.2.2.2.2.2.2.2.2.2).mono ?_
  rintro e w13 ⟨A9, c9, rfl, ho9, h13, hg13⟩
  have hK13 := H12.out.2.1.grown hg13 (fun e => by injection e with e; omega)
  have kc : w13.cell? ⟨q, 9, none⟩ = some (.slice none 0 0) := hK13.cell 9
  have kf := hK13.frozen 9
  have n9 : ∀ k, (Value.slice A9 (i8s b10).length c9).ownBlock = some k → q < k ∧ w12.heap.size ≤ k := fun k hk => by have := ho9.rng hk; have := H12.out.2.1.lt; omega
  have r8 : Row8 w13 w.heap.size A8 c8 b9 := H12.out.2.2.1.grown hg13 (fun k hk e => by injection hk with hk; have := H12.out.2.2.2 k e; omega)
  have r9 : Row8 w13 w.heap.size A9 c9 b10 := own_base_le ho9 H12.out.1.below.size
  have H13 := Lib.hid (And.intro (h13.far hgq 9 (.slice A9 (i8s b10).length c9)) (And.intro (hK13.set_ 9 (.slice A9 (i8s b10).length c9)) (And.intro (r8.far (fun k e => (H12.out.2.2.2 k e).1) 9 (.slice A9 (i8s b10).length c9)) (And.intro (r9.far (fun k e => (n9 k e).1) 9 (.slice A9 (i8s b10).length c9)) (And.intro H12.out.2.2.2 n9)))))
  clear h13 hg13 hK13 n9 r8 r9 ho9 hs12
  go_upto_region 13 with fail
  clear kc kf
  obtain ⟨w14, hw14⟩ : ∃ w14, w14 = w13.setCell ⟨q, 9, none⟩ (.slice A9 (i8s b10).length c9) := ⟨_, rfl⟩
  rw [← hw14]
  have H14 := Lib.hid (show RT w w14 g A n c B p10 d10 ∧ Blk w14 q 27 #[.int .u64 (x1 : Int), .int .u64 (x2 : Int), .string ⟨t3.toArray⟩, .int .i64 0, .string ⟨t5.toArray⟩, .string ⟨t6.toArray⟩, .int .u64 (x7 : Int), .int .i64 0, .slice A8 (i8s b9).length c8, .slice A9 (i8s b10).length c9]
    ∧ Row8 w14 w.heap.size A8 c8 b9 ∧ Row8 w14 w.heap.size A9 c9 b10 from by rw [hw14]; exact ⟨H13.out.1, H13.out.2.1, H13.out.2.2.1, H13.out.2.2.2.1⟩)
  have HN := Lib.hid H13.out.2.2.2.2
  clear hw14 H13
  have hl : B.length = n := H14.out.1.rd.len
  have hpn : p10 ≤ n := H14.out.1.rd.le
  have kc1 : w14.cell? ⟨g, 1, none⟩ = some (.int .i64 (p10 : Int)) := H14.out.1.rd.blk.cell 1
  have kc2 : w14.cell? ⟨g, 2, none⟩ = some (.bool d10) := H14.out.1.rd.blk.cell 2
  cases d10 with
  | true =>
    have HD := Lib.hid (show dC (B.drop p10) true = 4 from by simp [dC])
    go_wp2_with (first
      | (refine wpList_store_blk (o := ⟨none, _, _, _, _, _⟩) (by rfl) 27 (.tmp 2) (.tmp 61) (by rfl) w.heap.size 27 zrec zrec (by rfl) (by rfl) H14.out.1.zb (by rfl) (size_ten _ rfl) (one_ten _ _ _ _ _ _ _ _) ?_; intro w16 hK16 hg16 hz16)
      | fail)
    refine bodyPost_ret (results_row_tmp (by rfl) _ _ w.heap.size 27 zrec _ (by rfl) hK16 hu2 rfl (size_ten _ rfl)) rfl ?_
    have hg : ¬ goodFs ⟨x1, x2, t3, x4, t5, t6, x7, x8, b9, b10, B.drop p10, true⟩ = true := by unfold goodFs; rw [HD.out]; simp
    unfold recOf
    rw [if_neg hg]
    have hb := H14.out.1.below
    exact ⟨.slice none 0 0, .slice none 0 0, rfl, Kd.R_nil _ _ _ _ _, Kd.R_nil _ _ _ _ _, hb.grown hg16 hb.size (fun k hk => by injection hk with hk; omega)⟩
  | false =>
    by_cases c1 : p10 < n
    · have HD := Lib.hid (show dC (B.drop p10) false = 4 from by unfold dC; rw [List.length_drop, if_pos (by simp; omega)])
      have d1 : decide ((p10 : Int) < (n : Int)) = true := decide_eq_true (by omega)
      have d2 : decide (p10 < n) = true := decide_eq_true c1
      go_wp2_with (first
        | (refine wpList_store_blk (o := ⟨none, _, _, _, _, _⟩) (by rfl) 27 (.tmp 2) (.tmp 61) (by rfl) w.heap.size 27 zrec zrec (by rfl) (by rfl) H14.out.1.zb (by rfl) (size_ten _ rfl) (one_ten _ _ _ _ _ _ _ _) ?_; intro w16 hK16 hg16 hz16)
        | fail)
      refine bodyPost_ret (results_row_tmp (by rfl) _ _ w.heap.size 27 zrec _ (by rfl) hK16 hu2 rfl (size_ten _ rfl)) rfl ?_
      have hg : ¬ goodFs ⟨x1, x2, t3, x4, t5, t6, x7, x8, b9, b10, B.drop p10, false⟩ = true := by unfold goodFs; rw [HD.out]; simp
      unfold recOf
      rw [if_neg hg]
      have hb := H14.out.1.below
      exact ⟨.slice none 0 0, .slice none 0 0, rfl, Kd.R_nil _ _ _ _ _, Kd.R_nil _ _ _ _ _, hb.grown hg16 hb.size (fun k hk => by injection hk with hk; omega)⟩
    · have HD := Lib.hid (show dC (B.drop p10) false = 0 from by unfold dC; rw [List.length_drop, if_neg (by simp; omega)])
      have d1 : decide ((p10 : Int) < (n : Int)) = false := decide_eq_false (by omega)
      have d2 : decide (p10 < n) = false := decide_eq_false c1
      by_cases c2 : x4 > 1000
      · have HR := Lib.hid (show rightFs ⟨x1, x2, t3, x4, t5, t6, x7, x8, b9, b10, B.drop p10, false⟩ = false from by show (restB (x4 : Int) (x8 : Int) t3.length t5.length t6.length && _) = false; rw [restB_off (by omega), Bool.false_and])
        have d3 : decide ((1000 : Int) < (x4 : Int)) = true := decide_eq_true (by omega)
        go_wp2_with (first
          | (refine wpList_store_blk (o := ⟨none, _, _, _, _, _⟩) (by rfl) 27 (.tmp 2) (.tmp 61) (by rfl) w.heap.size 27 zrec zrec (by rfl) (by rfl) H14.out.1.zb (by rfl) (size_ten _ rfl) (one_ten _ _ _ _ _ _ _ _) ?_; intro w16 hK16 hg16 hz16)
          | fail)
        refine bodyPost_ret (results_row_tmp (by rfl) _ _ w.heap.size 27 zrec _ (by rfl) hK16 hu2 rfl (size_ten _ rfl)) rfl ?_
        have hg : ¬ goodFs ⟨x1, x2, t3, x4, t5, t6, x7, x8, b9, b10, B.drop p10, false⟩ = true := by unfold goodFs; rw [HR.out]; simp
        unfold recOf
        rw [if_neg hg]
        have hb := H14.out.1.below
        exact ⟨.slice none 0 0, .slice none 0 0, rfl, Kd.R_nil _ _ _ _ _, Kd.R_nil _ _ _ _ _, hb.grown hg16 hb.size (fun k hk => by injection hk with hk; omega)⟩
      · have d3 : decide ((1000 : Int) < (x4 : Int)) = false := decide_eq_false (by omega)
        by_cases c3 : x8 > 9999
        · have HR := Lib.hid (show rightFs ⟨x1, x2, t3, x4, t5, t6, x7, x8, b9, b10, B.drop p10, false⟩ = false from by show (restB (x4 : Int) (x8 : Int) t3.length t5.length t6.length && _) = false; rw [restB_off (by omega), Bool.false_and])
          have d4 : decide ((9999 : Int) < (x8 : Int)) = true := decide_eq_true (by omega)
          go_wp2_with (first
            | (refine wpList_store_blk (o := ⟨none, _, _, _, _, _⟩) (by rfl) 27 (.tmp 2) (.tmp 61) (by rfl) w.heap.size 27 zrec zrec (by rfl) (by rfl) H14.out.1.zb (by rfl) (size_ten _ rfl) (one_ten _ _ _ _ _ _ _ _) ?_; intro w16 hK16 hg16 hz16)
            | fail)
          refine bodyPost_ret (results_row_tmp (by rfl) _ _ w.heap.size 27 zrec _ (by rfl) hK16 hu2 rfl (size_ten _ rfl)) rfl ?_
          have hg : ¬ goodFs ⟨x1, x2, t3, x4, t5, t6, x7, x8, b9, b10, B.drop p10, false⟩ = true := by unfold goodFs; rw [HR.out]; simp
          unfold recOf
          rw [if_neg hg]
          have hb := H14.out.1.below
          exact ⟨.slice none 0 0, .slice none 0 0, rfl, Kd.R_nil _ _ _ _ _, Kd.R_nil _ _ _ _ _, hb.grown hg16 hb.size (fun k hk => by injection hk with hk; omega)⟩
        · have d4 : decide ((9999 : Int) < (x8 : Int)) = false := decide_eq_false (by omega)
          have q4 : IntKind.i64.wrap (x4 : Int) = (x4 : Int) := IntWalk.i64_in _ (by omega)
          have q8 : IntKind.i64.wrap (x8 : Int) = (x8 : Int) := IntWalk.i64_in _ (by omega)
          have kc3 : w14.cell? ⟨q, 3, none⟩ = some (.int .i64 0) := H14.out.2.1.cell 3
          have kf3 := H14.out.2.1.frozen 3
          have kc7 : w14.cell? ⟨q, 7, none⟩ = some (.int .i64 0) := H14.out.2.1.cell 7
          have kf7 := H14.out.2.1.frozen 7
          obtain ⟨rt, hrt⟩ : ∃ rt, rt = (restB (x4 : Int) (x8 : Int) t3.length t5.length t6.length && (sumB (i8s b9).length && prevB (x1 : Int) (i8s b10).length)) := ⟨_, rfl⟩
          have HF := Lib.hid (show rright.f (x1 : Int) (x2 : Int) ⟨t3.toArray⟩ (x4 : Int) ⟨t5.toArray⟩ ⟨t6.toArray⟩ (x7 : Int) (x8 : Int) (i8s b9) (i8s b10) = some rt from by unfold rright.f; rw [hrt]; simp [ByteArray.size])
          have HG := Lib.hid (show rightFs ⟨x1, x2, t3, x4, t5, t6, x7, x8, b9, b10, B.drop p10, false⟩ = rt from by rw [hrt, i8s_length, i8s_length]; rfl)
          clear hrt
          go_upto_region 17 with fail
          clear kc1 kc2 kc3 kf3 kc7 kf7 d1 d2 d3 d4 q4 q8
          obtain ⟨w15, hw15⟩ : ∃ w15, w15 = (w14.setCell ⟨q, 3, none⟩ (.int .i64 (x4 : Int))).setCell ⟨q, 7, none⟩ (.int .i64 (x8 : Int)) := ⟨_, rfl⟩
          rw [← hw15]
          have H15 := Lib.hid (show RT w w15 g A n c B p10 false ∧ Blk w15 q 27 #[.int .u64 (x1 : Int), .int .u64 (x2 : Int), .string ⟨t3.toArray⟩, .int .i64 (x4 : Int), .string ⟨t5.toArray⟩, .string ⟨t6.toArray⟩, .int .u64 (x7 : Int), .int .i64 (x8 : Int), .slice A8 (i8s b9).length c8, .slice A9 (i8s b10).length c9] ∧ Row8 w15 w.heap.size A8 c8 b9 ∧ Row8 w15 w.heap.size A9 c9 b10 from by
            rw [hw15]
            exact ⟨(H14.out.1.far hgq 3 _).far hgq 7 _, (H14.out.2.1.set_ 3 (.int .i64 (x4 : Int))).set_ 7 (.int .i64 (x8 : Int)), (H14.out.2.2.1.far (fun k e => (HN.out.1 k e).1) 3 _).far (fun k e => (HN.out.1 k e).1) 7 _, (H14.out.2.2.2.far (fun k e => (HN.out.2 k e).1) 3 _).far (fun k e => (HN.out.2 k e).1) 7 _⟩)
          clear hw15 H14
          have HR8 := Lib.hid H15.out.2.2.1.reads
          have HR9 := Lib.hid H15.out.2.2.2.reads
          go_wp2_with (first
            | ((with_reducible refine gate_dst (N := 68) rfl ?_); (try (refine gate_guard (by rfl) ?_; dsimp only)); refine wpList_load_row (o := ⟨some 68, _, _, _, _, _⟩) (by rfl) 27 (.tmp 5) (by rfl) q (by rfl) 27 #[.int .u64 (x1 : Int), .int .u64 (x2 : Int), .string ⟨t3.toArray⟩, .int .i64 (x4 : Int), .string ⟨t5.toArray⟩, .string ⟨t6.toArray⟩, .int .u64 (x7 : Int), .int .i64 (x8 : Int), .slice A8 (i8s b9).length c8, .slice A9 (i8s b10).length c9] (0, 0) _ H15.out.2.1 hu2 rfl (size_ten _ rfl) ?_)
            | fail)
          refine (rright.calls (x1 : Int) (x2 : Int) ⟨t3.toArray⟩ (x4 : Int) ⟨t5.toArray⟩ ⟨t6.toArray⟩ (x7 : Int) (x8 : Int) A8 c8 (i8s b9) A9 c9 (i8s b10) rt w15 HR8.out.1 HR8.out.2 HR9.out.1 HR9.out.2 HF.out).mono ?_
          rintro e w17 ⟨rfl, hb17⟩
          have HB17 := Lib.hid hb17
          clear hb17
          cases rt with
          | false =>
            go_wp2_with (first
              | (refine wpList_store_blk (o := ⟨none, _, _, _, _, _⟩) (by rfl) 27 (.tmp 2) (.tmp 71) (by rfl) w.heap.size 27 zrec zrec (by rfl) (by rfl) (H15.out.1.zb.after HB17.out) (by rfl) (size_ten _ rfl) (one_ten _ _ _ _ _ _ _ _) ?_; intro w16 hK16 hg16 hz16)
              | fail)
            refine bodyPost_ret (results_row_tmp (by rfl) _ _ w.heap.size 27 zrec _ (by rfl) hK16 hu2 rfl (size_ten _ rfl)) rfl ?_
            have hg : ¬ goodFs ⟨x1, x2, t3, x4, t5, t6, x7, x8, b9, b10, B.drop p10, false⟩ = true := by unfold goodFs; rw [HG.out]; simp
            unfold recOf
            rw [if_neg hg]
            have hb := below_then H15.out.1.below HB17.out
            exact ⟨.slice none 0 0, .slice none 0 0, rfl, Kd.R_nil _ _ _ _ _, Kd.R_nil _ _ _ _ _, hb.grown hg16 hb.size (fun k hk => by injection hk with hk; omega)⟩
          | true =>
            go_wp2_with (first
              | (refine wpList_load_row (o := ⟨some 72, _, _, _, _, _⟩) (by rfl) 27 (.tmp 5) (by rfl) q (by rfl) 27 #[.int .u64 (x1 : Int), .int .u64 (x2 : Int), .string ⟨t3.toArray⟩, .int .i64 (x4 : Int), .string ⟨t5.toArray⟩, .string ⟨t6.toArray⟩, .int .u64 (x7 : Int), .int .i64 (x8 : Int), .slice A8 (i8s b9).length c8, .slice A9 (i8s b10).length c9] (0, 0) _ (H15.out.2.1.after HB17.out) hu2 rfl (size_ten _ rfl) ?_)
              | (refine wpList_store_blk (o := ⟨none, _, _, _, _, _⟩) (by rfl) 27 (.tmp 2) (.tmp 72) (by rfl) w.heap.size 27 zrec #[.int .u64 (x1 : Int), .int .u64 (x2 : Int), .string ⟨t3.toArray⟩, .int .i64 (x4 : Int), .string ⟨t5.toArray⟩, .string ⟨t6.toArray⟩, .int .u64 (x7 : Int), .int .i64 (x8 : Int), .slice A8 (i8s b9).length c8, .slice A9 (i8s b10).length c9] (by rfl) (by rfl) (H15.out.1.zb.after HB17.out) (by rfl) (size_ten _ rfl) (one_all _ _ _ _ _ _ _ _ _ _ _ _ _ _) ?_; intro w18 hK18 hg18 hz18)
              | fail)
            refine bodyPost_ret (results_row_tmp (by rfl) _ _ w.heap.size 27 #[.int .u64 (x1 : Int), .int .u64 (x2 : Int), .string ⟨t3.toArray⟩, .int .i64 (x4 : Int), .string ⟨t5.toArray⟩, .string ⟨t6.toArray⟩, .int .u64 (x7 : Int), .int .i64 (x8 : Int), .slice A8 (i8s b9).length c8, .slice A9 (i8s b10).length c9] _ (by rfl) hK18 hu2 rfl (size_ten _ rfl)) rfl ?_
            have hg : goodFs ⟨x1, x2, t3, x4, t5, t6, x7, x8, b9, b10, B.drop p10, false⟩ = true := by unfold goodFs; rw [HG.out, HD.out]; rfl
            unfold recOf
            rw [if_pos hg]
            have hb := below_then H15.out.1.below HB17.out
            have t8 := (H15.out.2.2.1.grown (only_of_below HB17.out none) (by simp)).grown hg18 (fun k hk e => by injection hk with hk; have := (HN.out.1 _ e).1; have := H15.out.1.gt; omega)
            have t9 := (H15.out.2.2.2.grown (only_of_below HB17.out none) (by simp)).grown hg18 (fun k hk e => by injection hk with hk; have := (HN.out.2 _ e).1; have := H15.out.1.gt; omega)
            refine ⟨.slice A8 (i8s b9).length c8, .slice A9 (i8s b10).length c9, rfl, own_u8 t8 (fun k hk e => ?_), own_u8 t9 (fun k hk e => ?_), hb.grown hg18 hb.size (fun k hk => by injection hk with hk; omega)⟩
            · have h1 := (HN.out.1 _ hk).2
              have h2 := (HN.out.2 _ e.symm).2
              omega
            · have h1 := (HN.out.1 _ e.symm).2
              have h2 := (HN.out.2 _ hk).2
              omega
/-- the reference's reader reads what canon's reads of what is left -/
theorem numOk_drop (B : List UInt8) (p : Nat) (bad : Bool) (s : UInt8) (k : Nat) : numOk B p bad s k = headOk (B.drop p) bad s k := by
  have e : (B.drop p).getD 0 0 = B.getD p 0 := by simp [List.getD_eq_getElem?_getD, List.getElem?_drop]
  unfold numOk headOk
  rw [e, List.length_drop]
  have : decide (k + 1 ≤ B.length - p) = decide (k < B.length - p) := by simp [Nat.lt_iff_add_one_le]
  rw [this]
theorem uOut_uC (B : List UInt8) (p : Nat) (bad : Bool) : uC (B.drop p) bad = ((uOut B p bad).1, B.drop (uOut B p bad).2.1, (uOut B p bad).2.2) := by
  unfold uC uOut
  rw [numOk_drop]
  split
  · simp only [List.drop_drop]
  · rfl
theorem sOut_sC (s : UInt8) (B : List UInt8) (p : Nat) (bad : Bool) : sC s (B.drop p) bad = ((sOut s B p bad).1, B.drop (sOut s B p bad).2.1, (sOut s B p bad).2.2) := by
  unfold sC sOut
  rw [numOk_drop]
  split
  · simp only [List.drop_drop, List.length_drop]
    split
    · simp only [Nat.add_assoc]
    · rfl
  · rfl
theorem aread.calls (A0 : Option Addr) (c0 : Nat) (l0 : List Int) (r1 r2 : Int) (r3 : ByteArray) (r4 : Int) (r5 r6 : ByteArray) (r7 r8 : Int) (r9 r10 : List Int) (r11 : Int) (w : World) (hr0 : Kd.C (Kd.int .u8) w A0 l0.length l0) (hc0 : l0.length ≤ c0) (h : aread.f l0 = some (r1, r2, r3, r4, r5, r6, r7, r8, r9, r10, r11)) :
    Calls Try.prog 24 #[.slice A0 l0.length c0] w fun e w' => ∃ v8_ v9_ : Value, e = .returned (.tuple #[.agg #[.int .u64 r1, .int .u64 r2, .string r3, .int .i64 r4, .string r5, .string r6, .int .u64 r7, .int .i64 r8, v8_, v9_], .int .i64 r11]) ∧ Kd.R (Kd.int .u8) 5 w' w.heap.size (fun k_ => some k_ ≠ v9_.ownBlock) v8_ r9 ∧ Kd.R (Kd.int .u8) 5 w' w.heap.size (fun k_ => some k_ ≠ v8_.ownBlock) v9_ r10 ∧ Below w.heap.size w w' := by
  unfold aread.f readsAs at h
  by_cases hg : okRead l0 = true
  · rw [if_pos hg] at h
    injection h with h
    unfold okRead at hg
    rw [Bool.and_eq_true, decide_eq_true_eq] at hg
    obtain ⟨⟨x1, B1, d1⟩, e1⟩ : ∃ o, uC (u8s l0) false = o := ⟨_, rfl⟩
    obtain ⟨⟨x2, B2, d2⟩, e2⟩ : ∃ o, uC B1 d1 = o := ⟨_, rfl⟩
    obtain ⟨⟨t3, B3, d3⟩, e3⟩ : ∃ o, sC 115 B2 d2 = o := ⟨_, rfl⟩
    obtain ⟨⟨x4, B4, d4⟩, e4⟩ : ∃ o, uC B3 d3 = o := ⟨_, rfl⟩
    obtain ⟨⟨t5, B5, d5⟩, e5⟩ : ∃ o, sC 115 B4 d4 = o := ⟨_, rfl⟩
    obtain ⟨⟨t6, B6, d6⟩, e6⟩ : ∃ o, sC 115 B5 d5 = o := ⟨_, rfl⟩
    obtain ⟨⟨x7, B7, d7⟩, e7⟩ : ∃ o, uC B6 d6 = o := ⟨_, rfl⟩
    obtain ⟨⟨x8, B8', d8⟩, e8⟩ : ∃ o, uC B7 d7 = o := ⟨_, rfl⟩
    obtain ⟨⟨b9, B9, d9⟩, e9⟩ : ∃ o, sC 98 B8' d8 = o := ⟨_, rfl⟩
    obtain ⟨⟨b10, B10, d10⟩, e10⟩ : ∃ o, sC 98 B9 d9 = o := ⟨_, rfl⟩
    have hf : fieldsOf (u8s l0) = ⟨x1, x2, t3, x4, t5, t6, x7, x8, b9, b10, B10, d10⟩ := by
      unfold fieldsOf
      simp only [e1, e2, e3, e4, e5, e6, e7, e8, e9, e10]
    rw [hf] at h
    refine (aread_walk (c := c0) (reads_u8 hr0 hg.1) (by omega) e1 e2 e3 e4 e5 e6 e7 e8 e9 e10).mono fun e w' hh => ?_
    rw [h] at hh
    exact hh
  · rw [if_neg hg] at h; cases h
theorem rread.calls (A0 : Option Addr) (c0 : Nat) (l0 : List Int) (r1 r2 : Int) (r3 : ByteArray) (r4 : Int) (r5 r6 : ByteArray) (r7 r8 : Int) (r9 r10 : List Int) (r11 : Int) (w : World) (hr0 : Kd.C (Kd.int .u8) w A0 l0.length l0) (hc0 : l0.length ≤ c0) (h : rread.f l0 = some (r1, r2, r3, r4, r5, r6, r7, r8, r9, r10, r11)) :
    Calls Try.prog 25 #[.slice A0 l0.length c0] w fun e w' => ∃ v8_ v9_ : Value, e = .returned (.tuple #[.agg #[.int .u64 r1, .int .u64 r2, .string r3, .int .i64 r4, .string r5, .string r6, .int .u64 r7, .int .i64 r8, v8_, v9_], .int .i64 r11]) ∧ Kd.R (Kd.int .u8) 5 w' w.heap.size (fun k_ => some k_ ≠ v9_.ownBlock) v8_ r9 ∧ Kd.R (Kd.int .u8) 5 w' w.heap.size (fun k_ => some k_ ≠ v8_.ownBlock) v9_ r10 ∧ Below w.heap.size w w' := by
  unfold rread.f readsAs at h
  by_cases hg : okRead l0 = true
  · rw [if_pos hg] at h
    injection h with h
    unfold okRead at hg
    rw [Bool.and_eq_true, decide_eq_true_eq] at hg
    obtain ⟨⟨x1, p1, d1⟩, e1⟩ : ∃ o, uOut (u8s l0) 0 false = o := ⟨_, rfl⟩
    obtain ⟨⟨x2, p2, d2⟩, e2⟩ : ∃ o, uOut (u8s l0) p1 d1 = o := ⟨_, rfl⟩
    obtain ⟨⟨t3, p3, d3⟩, e3⟩ : ∃ o, sOut 115 (u8s l0) p2 d2 = o := ⟨_, rfl⟩
    obtain ⟨⟨x4, p4, d4⟩, e4⟩ : ∃ o, uOut (u8s l0) p3 d3 = o := ⟨_, rfl⟩
    obtain ⟨⟨t5, p5, d5⟩, e5⟩ : ∃ o, sOut 115 (u8s l0) p4 d4 = o := ⟨_, rfl⟩
    obtain ⟨⟨t6, p6, d6⟩, e6⟩ : ∃ o, sOut 115 (u8s l0) p5 d5 = o := ⟨_, rfl⟩
    obtain ⟨⟨x7, p7, d7⟩, e7⟩ : ∃ o, uOut (u8s l0) p6 d6 = o := ⟨_, rfl⟩
    obtain ⟨⟨x8, p8, d8⟩, e8⟩ : ∃ o, uOut (u8s l0) p7 d7 = o := ⟨_, rfl⟩
    obtain ⟨⟨b9, p9, d9⟩, e9⟩ : ∃ o, sOut 98 (u8s l0) p8 d8 = o := ⟨_, rfl⟩
    obtain ⟨⟨b10, p10, d10⟩, e10⟩ : ∃ o, sOut 98 (u8s l0) p9 d9 = o := ⟨_, rfl⟩
    have c1 := uOut_uC (u8s l0) 0 false
    have c2 := uOut_uC (u8s l0) p1 d1
    have c3 := sOut_sC 115 (u8s l0) p2 d2
    have c4 := uOut_uC (u8s l0) p3 d3
    have c5 := sOut_sC 115 (u8s l0) p4 d4
    have c6 := sOut_sC 115 (u8s l0) p5 d5
    have c7 := uOut_uC (u8s l0) p6 d6
    have c8 := uOut_uC (u8s l0) p7 d7
    have c9 := sOut_sC 98 (u8s l0) p8 d8
    have c10 := sOut_sC 98 (u8s l0) p9 d9
    rw [e1, List.drop_zero] at c1
    rw [e2] at c2
    rw [e3] at c3
    rw [e4] at c4
    rw [e5] at c5
    rw [e6] at c6
    rw [e7] at c7
    rw [e8] at c8
    rw [e9] at c9
    rw [e10] at c10
    have hf : fieldsOf (u8s l0) = ⟨x1, x2, t3, x4, t5, t6, x7, x8, b9, b10, (u8s l0).drop p10, d10⟩ := by
      unfold fieldsOf
      simp only [c1, c2, c3, c4, c5, c6, c7, c8, c9, c10]
    have l4 : x4 < 18446744073709551616 := by have := uC_lt ((u8s l0).drop p3) d3; rw [c4] at this; exact this
    have l8 : x8 < 18446744073709551616 := by have := uC_lt ((u8s l0).drop p7) d7; rw [c8] at this; exact this
    rw [hf] at h
    refine (rread_walk (c := c0) (reads_u8 hr0 hg.1) hc0 (by omega) l4 l8 e1 e2 e3 e4 e5 e6 e7 e8 e9 e10).mono fun e w' hh => ?_
    rw [h] at hh
    exact hh
  · rw [if_neg hg] at h; cases h
end Go.Proofs.Ytjnakhgpenafdaa
