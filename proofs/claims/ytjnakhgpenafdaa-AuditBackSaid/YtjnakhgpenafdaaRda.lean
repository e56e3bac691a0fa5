/- audit.Read: what it reads of bytes. -/
import Derived.Test.YtjnakhgpenafdaaRdp
import Derived.Laws.ResultCell
import Derived.Laws.Rows
import Derived.Test.YtjnakhgpenafdaaP14x1
namespace Go.Proofs.Ytjnakhgpenafdaa
open Go.RowKit Go.Proofs.YtjnakhgpenafdaaW.PrintWords Go.Proofs.YtjnakhgpenafdaaW.PrintMore Go.Proofs.Ytjnakhgpenafdaa.P14
attribute [local go_sem] max2_int min2_int max_two min_two
set_option linter.unusedVariables false
set_option linter.unusedSimpArgs false
def zrec : Array Value := #[.int .u64 0, .int .u64 0, .string ⟨#[]⟩, .int .i64 0, .string ⟨#[]⟩, .string ⟨#[]⟩, .int .u64 0, .int .i64 0, .slice none 0 0, .slice none 0 0]
theorem alloc_zrec : ∀ w, (Instr.alloc 27 true (.tuple #[])).run Try.prog w = .ok (.pointer (some ⟨w.heap.size, 0, none⟩)) (w.alloc (.cells zrec 27)) := fun w => by kernel_rfl
theorem size_ten (cs : Array Value) (h : cs.size = 10) : (Try.prog.info? 27).map (·.size) = some cs.size := by rw [h]; kernel_rfl
theorem one_all (a0 a1 : Int) (a2 : ByteArray) (a3 : Int) (a4 a5 : ByteArray) (a6 a7 : Int) (A8 : Option Addr) (n8 c8 : Nat) (A9 : Option Addr) (n9 c9 : Nat) : ∀ v ∈ (#[.int .u64 a0, .int .u64 a1, .string a2, .int .i64 a3, .string a4, .string a5, .int .u64 a6, .int .i64 a7, .slice A8 n8 c8, .slice A9 n9 c9] : Array Value).toList, v.oneCell' = true := by
  intro v hv
  simp only [List.mem_cons, List.not_mem_nil, or_false] at hv
  rcases hv with rfl | rfl | rfl | rfl | rfl | rfl | rfl | rfl | rfl | rfl <;> rfl
theorem restB_min {x4 x8 ki ei : Nat} (hk : ki = if 20 < x4 then 20 else x4) (he : ei = if 10000 < x8 then 10000 else x8) (a b c : Nat) : restB (ki : Int) (ei : Int) a b c = restB (x4 : Int) (x8 : Int) a b c := by
  unfold restB
  by_cases h1 : x4 ≤ 19 ∧ x8 ≤ 9999
  · rw [if_neg (by omega)] at hk he
    rw [hk, he]
  · rw [decide_eq_false (by rintro ⟨_, h2, _, h3, _⟩; split at hk <;> split at he <;> omega), decide_eq_false (by rintro ⟨_, h2, _, h3, _⟩; omega)]
theorem one_ten (a0 a1 : Int) (a2 : ByteArray) (a3 : Int) (a4 a5 : ByteArray) (a6 a7 : Int) : ∀ v ∈ (#[.int .u64 a0, .int .u64 a1, .string a2, .int .i64 a3, .string a4, .string a5, .int .u64 a6, .int .i64 a7, .slice none 0 0, .slice none 0 0] : Array Value).toList, v.oneCell' = true := by
  intro v hv
  simp only [List.mem_cons, List.not_mem_nil, or_false] at hv
  rcases hv with rfl | rfl | rfl | rfl | rfl | rfl | rfl | rfl | rfl | rfl <;> rfl
theorem results_row_tmp {P : Program} {fn : Func} {p u : Tmp} {ty : TypeId} (h : fn.results = #[.cell p ty, .tmp u]) (tmps : Array Value) (w : World) (g : Nat) (t : TypeId) (cs : Array Value) (d : TypeDesc)
    (hp : tmps.getD p undef = .pointer (some ⟨g, 0, none⟩)) (hg : Blk w g t cs)
    (hu : P.underlying ty = some d) (hd : (match d with | .struct _ | .array _ _ => true | _ => false) = true) (hi : (P.info? ty).map (·.size) = some cs.size) :
    (results fn tmps).run P w = .ok (.tuple #[.agg cs, tmps.getD u undef]) w := by
  rw [results_cell_tmp h, hp]
  simp [asAddr, run_loadVar_row w g t ty cs (0, 0) d hg hu hd hi, Result.andThen]
theorem dC_or (B : List UInt8) (bad : Bool) : dC B bad = 0 ∨ dC B bad = 4 := by unfold dC; split <;> simp
/-- new bytes, held back -/
def Row8 (w : World) (base : Nat) (A : Option Addr) (c : Nat) (x : List UInt8) : Prop := w.ownsRow base 5 1 (.slice A (i8s x).length c) (i8s x).length (B8 x)
theorem Row8.rng {w : World} {base : Nat} {A : Option Addr} {c : Nat} {x : List UInt8} (h : Row8 w base A c x) {k : Nat} (hk : (Value.slice A (i8s x).length c).ownBlock = some k) : base ≤ k ∧ k < w.heap.size := by
  rcases h.2 with ⟨h1, _⟩ | ⟨g', cap, cur, h1, hg, hh, _⟩
  · rw [h1] at hk; simp [Value.ownBlock] at hk
  · rw [h1] at hk
    simp [Value.ownBlock] at hk
    subst hk
    exact ⟨hg, (Array.getElem?_eq_some_iff.1 hh).1⟩
theorem Row8.grown {w w' : World} {base : Nat} {A : Option Addr} {c : Nat} {x : List UInt8} {row : Option Nat} (h : Row8 w base A c x) (hg : w.grownBy w' row) (hne : ∀ k, row = some k → (Value.slice A (i8s x).length c).ownBlock ≠ some k) : Row8 w' base A c x := by
  refine ⟨h.1, ?_⟩
  rcases h.2 with h2 | ⟨g', cap, cur, h1, hb, hh, r⟩
  · exact .inl h2
  · refine .inr ⟨g', cap, cur, h1, hb, (hg.block g' (Array.getElem?_eq_some_iff.1 hh).1 (fun e => hne g' e.symm (by rw [h1]; simp [Value.ownBlock]))).trans hh, r⟩
theorem Row8.far {w : World} {base : Nat} {A : Option Addr} {c : Nat} {x : List UInt8} (h : Row8 w base A c x) {q : Nat} (hne : ∀ k, (Value.slice A (i8s x).length c).ownBlock = some k → q < k) (i : Nat) (u : Value) : Row8 (w.setCell ⟨q, i, none⟩ u) base A c x :=
  h.grown (only_set (World.grownBy.refl w (some q)) i u) (fun k hk e => by injection hk with hk; have := hne k e; omega)
theorem Row8.reads {w : World} {base : Nat} {A : Option Addr} {c : Nat} {x : List UInt8} (h : Row8 w base A c x) : Kd.C (Kd.int .u8) w A (i8s x).length (i8s x) ∧ (i8s x).length ≤ c := by
  have := Kd.R_reads' (own_u8 (ok := fun _ => True) h (fun _ _ => trivial))
  exact ⟨this.2.2, this.2.1⟩
/-- a reader at g, and ahead of it the cell of the result -/
structure RS (w0 w : World) (g : Nat) (B : List UInt8) (bad : Bool) : Prop where
  rd : ∃ A n c, n ≤ 140737488351232 ∧ RdC w g A n c B bad
  below : Below w0.heap.size w0 w
  ge : w0.heap.size < g
  zb : Blk w w0.heap.size 27 zrec
section
variable {w0 w w' : World} {g : Nat} {B B' : List UInt8} {bad bad' : Bool}
theorem RS.goes {n : Nat} {o : List UInt8 × Bool} (h : RS w0 w g B bad) (hn : n ≤ 140737488351232) (hg : Goes w g n o w') : RS w0 w' g o.1 o.2 ∧ w.grownBy w' (some g) := by
  obtain ⟨A', n', c', hle, hr, hg⟩ := hg
  refine ⟨⟨⟨A', n', c', by omega, hr⟩, h.below.grown hg h.below.size (fun k hk => by injection hk with hk; have := h.ge; omega), h.ge, h.zb.grown hg (fun e => by injection e with e; have := h.ge; omega)⟩, hg⟩
theorem RS.lt (h : RS w0 w g B bad) : g < w.heap.size := by obtain ⟨_, _, _, _, hr⟩ := h.rd; exact hr.lt
theorem RS.alloc (h : RS w0 w g B bad) (o : Obj) : RS w0 (w.alloc o) g B bad := by
  obtain ⟨A, n, c, hn, hr⟩ := h.rd
  exact ⟨⟨A, n, c, hn, hr.grown (World.grownBy_alloc w o none) (by simp)⟩, h.below.alloc h.below.size _, h.ge, h.zb.alloc _⟩
theorem RS.grown {q : Nat} (h : RS w0 w g B bad) (hg : w.grownBy w' (some q)) (hq : g < q) : RS w0 w' g B bad := by
  obtain ⟨A, n, c, hn, hr⟩ := h.rd
  exact ⟨⟨A, n, c, hn, hr.grown hg (fun k hk => by injection hk with hk; omega)⟩, h.below.grown hg h.below.size (fun k hk => by injection hk with hk; have := h.ge; omega), h.ge, h.zb.grown hg (fun e => by injection e with e; have := h.ge; omega)⟩
theorem RS.far {q : Nat} (h : RS w0 w g B bad) (hq : g < q) (i : Nat) (u : Value) : RS w0 (w.setCell ⟨q, i, none⟩ u) g B bad := h.grown (only_set (World.grownBy.refl w _) i u) hq
theorem RS.uint {x : Nat} (h : RS w0 w g B bad) (e : uC B bad = (x, B', bad')) :
    Calls Try.prog 43 #[.pointer (some ⟨g, 0, none⟩)] w fun e w' => e = .returned (.int .u64 (x : Int)) ∧ RS w0 w' g B' bad' ∧ w.grownBy w' (some g) := by
  obtain ⟨A, n, c, hn, hr⟩ := h.rd
  refine (uintC_any hr hn).mono fun e' w' hh => ?_
  rw [e] at hh
  exact ⟨hh.1, h.goes hn hh.2⟩
theorem RS.text {x : List UInt8} (h : RS w0 w g B bad) (e : sC 115 B bad = (x, B', bad')) :
    Calls Try.prog 44 #[.pointer (some ⟨g, 0, none⟩)] w fun e w' => e = .returned (.string ⟨x.toArray⟩) ∧ RS w0 w' g B' bad' ∧ w.grownBy w' (some g) := by
  obtain ⟨A, n, c, hn, hr⟩ := h.rd
  refine (textC_any hr hn).mono fun e' w' hh => ?_
  rw [e] at hh
  exact ⟨hh.1, h.goes hn hh.2⟩
theorem RS.bytes {x : List UInt8} (h : RS w0 w g B bad) (e : sC 98 B bad = (x, B', bad')) :
    Calls Try.prog 45 #[.pointer (some ⟨g, 0, none⟩)] w fun e w' => ∃ A1 c1, e = .returned (.slice A1 (i8s x).length c1) ∧ Row8 w' w.heap.size A1 c1 x ∧ RS w0 w' g B' bad' ∧ w.grownBy w' (some g) := by
  obtain ⟨A, n, c, hn, hr⟩ := h.rd
  refine (bytesC_any hr hn).mono fun e' w' hh => ?_
  rw [e] at hh
  obtain ⟨A1, n1, c1, e1, ho, hgo⟩ := hh
  obtain rfl : (i8s x).length = n1 := by rw [i8s_length]; exact own_bytes_length ho
  exact ⟨A1, c1, e1, ho, h.goes hn hgo⟩
theorem RS.done (h : RS w0 w g B bad) : Calls Try.prog 46 #[.pointer (some ⟨g, 0, none⟩)] w fun e w' => e = .returned (.int .i64 (dC B bad)) ∧ w' = w := by
  obtain ⟨A, n, c, hn, hr⟩ := h.rd
  exact doneC_any hr
end
theorem aright_f {a0 a1 : Int} {a2 : ByteArray} {a3 : Int} {a4 a5 : ByteArray} {a6 a7 : Int} {l8 l9 : List Int} (k : Nat) (h0 : 0 ≤ a0) :
    audit_right.f (k + 1) a0 a1 a2 a3 a4 a5 a6 a7 l8 l9 = some (restB a3 a7 a2.size a4.size a5.size && (sumB l8.length && prevB a0 l9.length)) := by
  have hj : ∀ b : Bool, audit_right.j0 (k + 1) b a0 a1 a2 a3 a4 a5 a6 a7 l8 l9 = some (!b && restB a3 a7 a2.size a4.size a5.size) := by
    intro b
    rw [audit_right.j0]
    cases b with
    | true => rfl
    | false =>
      rw [if_neg (by decide), Bool.not_false, Bool.true_and]
      unfold restB
      by_cases c1 : a3 < 0
      · rw [if_pos c1, decide_eq_false (by omega)]
      · rw [if_neg c1]
        by_cases c2 : a3 > 19
        · rw [if_pos c2, decide_eq_false (by omega)]
        · rw [if_neg c2]
          by_cases c3 : a7 < 0
          · rw [if_pos c3, decide_eq_false (by omega)]
          · rw [if_neg c3]
            by_cases c4 : a7 > 9999
            · rw [if_pos c4, decide_eq_false (by omega)]
            · rw [if_neg c4]
              by_cases c5 : (a2.size : Int) ≤ 16
              · rw [if_pos c5]
                by_cases c6 : (a4.size : Int) ≤ 16
                · rw [if_pos c6]
                  by_cases c7 : (a5.size : Int) ≤ 48
                  · rw [decide_eq_true c7, decide_eq_true (by omega)]
                  · rw [decide_eq_false c7, decide_eq_false (by omega)]
                · rw [if_neg c6, decide_eq_false (by omega)]
              · rw [if_neg c5, decide_eq_false (by omega)]
  have hw : ∀ l : List Int, audit_whole.f l = some (sumB l.length) := by
    intro l
    unfold audit_whole.f sumB
    by_cases c : (l.length : Int) = 0
    · rw [if_pos c, decide_eq_true (by omega : l.length = 0), Bool.true_or]
    · rw [if_neg c, decide_eq_false (by omega : ¬ l.length = 0), Bool.false_or]
      by_cases d : l.length = 32
      · rw [decide_eq_true d, beq_iff_eq.2 (by omega)]
      · rw [decide_eq_false d, beq_eq_false_iff_ne.2 (by omega)]
  unfold audit_right.f
  simp only [hj, hw, Option.bind_some]
  have hp : prevB a0 l9.length = (!(a0 == 0) && (!((a0 == 1) != ((l9.length : Int) == 0)) && sumB l9.length)) := by
    unfold prevB sumB
    by_cases c0 : a0 = 0
    · subst c0; simp
    · by_cases c1 : a0 = 1
      · subst c1
        by_cases c2 : l9.length = 0
        · simp [c2]
        · have : ¬ ((l9.length : Int) = 0) := by omega
          simp [c2]
      · by_cases c2 : l9.length = 0
        · simp [c2, c0, c1]
        · have h1 : 1 < a0 := by omega
          rw [beq_eq_false_iff_ne.2 c0, beq_eq_false_iff_ne.2 c1, beq_eq_false_iff_ne.2 (by omega : (l9.length : Int) ≠ 0)]
          simp [c2, h1]
  rw [hp]
  by_cases c0 : a0 = 0
  · rw [if_pos c0]
    subst c0
    simp
  · rw [if_neg c0, beq_eq_false_iff_ne.2 c0]
    cases ((a0 == 1) != ((l9.length : Int) == 0)) with
    | true => rw [if_pos rfl]; simp
    | false =>
      rw [if_neg (by decide)]
      cases sumB l9.length with
      | false => simp
      | true => cases sumB l8.length <;> simp
set_option maxRecDepth 100000 in
set_option maxHeartbeats 3200000 in
theorem aread_walk {w : World} {A : Option Addr} {n c : Nat} {B : List UInt8} (hr : Reads w w.heap.size 1 A n (B8 B)) (hn : n ≤ 140737488351232)
    {x1 x2 x4 x7 x8 : Nat} {t3 t5 t6 b9 b10 B1 B2 B3 B4 B5 B6 B7 B8 B9 B10 : List UInt8} {d1 d2 d3 d4 d5 d6 d7 d8 d9 d10 : Bool}
    (e1 : uC B false = (x1, B1, d1)) (e2 : uC B1 d1 = (x2, B2, d2)) (e3 : sC 115 B2 d2 = (t3, B3, d3)) (e4 : uC B3 d3 = (x4, B4, d4)) (e5 : sC 115 B4 d4 = (t5, B5, d5)) (e6 : sC 115 B5 d5 = (t6, B6, d6))
    (e7 : uC B6 d6 = (x7, B7, d7)) (e8 : uC B7 d7 = (x8, B8, d8)) (e9 : sC 98 B8 d8 = (b9, B9, d9)) (e10 : sC 98 B9 d9 = (b10, B10, d10)) :
    Calls Try.prog 24 #[.slice A n c] w (RetRec w (recOf ⟨x1, x2, t3, x4, t5, t6, x7, x8, b9, b10, B10, d10⟩)) := by
  have hu := Try.underlying27
  have HE := Lib.hid (And.intro e1 (And.intro e2 (And.intro e3 (And.intro e4 (And.intro e5 (And.intro e6 (And.intro e7 (And.intro e8 (And.intro e9 e10)))))))))
  clear e1 e2 e3 e4 e5 e6 e7 e8 e9 e10
  have H := Lib.hid hr
  clear hr
  go_enter Try.func24, Try.ntmps24
  go_wp2_with (first
    | (refine wpList_alloc_blk (o := ⟨some 2, _, _, _, _, _⟩) (by rfl) 27 (by rfl) _ w.heap.size (by rfl) alloc_zrec ?_)
    | fail)
  refine (newC_any (w := w.alloc (.cells zrec 27)) (reads_up (H.out.alloc (Nat.le_refl _) _) (by simp)) hn).mono ?_
  rintro e w1 ⟨g, A1, c1, rfl, hge, hr1, hb1⟩
  have h1 : RS w w1 g B false := ⟨⟨A1, n, c1, hn, hr1⟩, below_then ((Below.refl _ _).alloc (Nat.le_refl _) _) hb1, by simp at hge; omega, (Blk.new w _ _).after hb1⟩
  have H1 := Lib.hid h1
  clear h1 hge hr1 hb1
  go_wp2_with fail
  refine (H1.out.uint HE.out.1).mono ?_
  rintro e w2 ⟨rfl, h2⟩
  have H2 := Lib.hid h2.1
  clear h2
  go_wp2_with fail
  refine (H2.out.uint HE.out.2.1).mono ?_
  rintro e w3 ⟨rfl, h3⟩
  have H3 := Lib.hid h3.1
  clear h3
  go_wp2_with fail
  refine (H3.out.text HE.out.2.2.1).mono ?_
  rintro e w4 ⟨rfl, h4⟩
  have H4 := Lib.hid h4.1
  clear h4
  obtain ⟨q, hq⟩ : ∃ q, w4.heap.size = q := ⟨_, rfl⟩
  have hgq : g < q := by rw [← hq]; exact H4.out.lt
  go_wp2_with (first
    | (refine wpList_alloc_blk (o := ⟨some 5, _, _, _, _, _⟩) (by rfl) 27 (by rfl) _ q hq alloc_zrec ?_)
    | (refine wpList_store_blk (o := ⟨none, _, _, _, _, _⟩) (by rfl) 27 (.tmp 5) (.tmp 14) (by rfl) q 27 zrec #[.int .u64 (x1 : Int), .int .u64 (x2 : Int), .string ⟨t3.toArray⟩, .int .i64 0, .string ⟨#[]⟩, .string ⟨#[]⟩, .int .u64 0, .int .i64 0, .slice none 0 0, .slice none 0 0] (by rfl) (by rfl) (Blk.new_ w4 27 _ hq) (by rfl) (size_ten _ rfl) (one_ten _ _ _ _ _ _ _ _) ?_; intro w5 hK5 hg5 hz5; have H5 := Lib.hid (And.intro ((H4.out.alloc (.cells zrec 27)).grown hg5 hgq) hK5); clear hK5 hg5 hz5)
    | fail)
  obtain ⟨ki, hki⟩ : ∃ ki : Nat, ki = if 20 < x4 then 20 else x4 := ⟨_, rfl⟩
  obtain ⟨ei, hei⟩ : ∃ ei : Nat, ei = if 10000 < x8 then 10000 else x8 := ⟨_, rfl⟩
  have hk : ki ≤ 20 := by rw [hki]; split <;> omega
  have he : ei ≤ 10000 := by rw [hei]; split <;> omega
  have mk : (if (20 : Int) < (x4 : Int) then (20 : Int) else (x4 : Int)) = (ki : Int) := by rw [hki]; split <;> split <;> omega
  have me : (if (10000 : Int) < (x8 : Int) then (10000 : Int) else (x8 : Int)) = (ei : Int) := by rw [hei]; split <;> split <;> omega
  have qk : IntKind.i64.wrap (ki : Int) = (ki : Int) := IntWalk.i64_in _ (by omega)
  have qe : IntKind.i64.wrap (ei : Int) = (ei : Int) := IntWalk.i64_in _ (by omega)
  have HKE := Lib.hid (And.intro hki hei)
  clear hki hei
  refine (H5.out.1.uint HE.out.2.2.2.1).mono ?_
  rintro e w6 ⟨rfl, h6, hg6⟩
  have hK6 := H5.out.2.grown hg6 (fun e => by injection e with e; omega)
  have kc : w6.cell? ⟨q, 3, none⟩ = some (.int .i64 0) := hK6.cell 3
  have kf := hK6.frozen 3
  have H6 := Lib.hid (And.intro (h6.far hgq 3 (.int .i64 (ki : Int))) (hK6.set_ 3 (.int .i64 (ki : Int))))
  clear h6 hg6 hK6
  go_wp2_with fail
  clear kc kf
  refine (H6.out.1.text HE.out.2.2.2.2.1).mono ?_
  rintro e w7 ⟨rfl, h7, hg7⟩
  have H7 := Lib.hid (And.intro h7 (H6.out.2.grown hg7 (fun e => by injection e with e; omega)))
  clear h7 hg7
  go_wp2_with fail
  refine (H7.out.1.text HE.out.2.2.2.2.2.1).mono ?_
  rintro e w8 ⟨rfl, h8, hg8⟩
  have H8 := Lib.hid (And.intro h8 (H7.out.2.grown hg8 (fun e => by injection e with e; omega)))
  clear h8 hg8
  go_wp2_with fail
  refine (H8.out.1.uint HE.out.2.2.2.2.2.2.1).mono ?_
  rintro e w9 ⟨rfl, h9, hg9⟩
  have hK9 := H8.out.2.grown hg9 (fun e => by injection e with e; omega)
  have kc4 : w9.cell? ⟨q, 4, none⟩ = some (.string ⟨#[]⟩) := hK9.cell 4
  have kf4 := hK9.frozen 4
  have kc5 : w9.cell? ⟨q, 5, none⟩ = some (.string ⟨#[]⟩) := hK9.cell 5
  have kf5 := hK9.frozen 5
  have kc6 : w9.cell? ⟨q, 6, none⟩ = some (.int .u64 0) := hK9.cell 6
  have kf6 := hK9.frozen 6
  have H9 := Lib.hid (And.intro (((h9.far hgq 4 (.string ⟨t5.toArray⟩)).far hgq 5 (.string ⟨t6.toArray⟩)).far hgq 6 (.int .u64 (x7 : Int))) (((hK9.set_ 4 (.string ⟨t5.toArray⟩)).set_ 5 (.string ⟨t6.toArray⟩)).set_ 6 (.int .u64 (x7 : Int))))
  clear h9 hg9 hK9
  go_wp2_with fail
  clear kc4 kf4 kc5 kf5 kc6 kf6
  refine (H9.out.1.uint HE.out.2.2.2.2.2.2.2.1).mono ?_
  rintro e w10 ⟨rfl, h10, hg10⟩
  have hK10 := H9.out.2.grown hg10 (fun e => by injection e with e; omega)
  have kc7 : w10.cell? ⟨q, 7, none⟩ = some (.int .i64 0) := hK10.cell 7
  have kf7 := hK10.frozen 7
  have H10 := Lib.hid (And.intro (h10.far hgq 7 (.int .i64 (ei : Int))) (hK10.set_ 7 (.int .i64 (ei : Int))))
  clear h10 hg10 hK10
  go_wp2_with fail
  clear kc7 kf7
  refine (H10.out.1.bytes HE.out.2.2.2.2.2.2.2.2.1).mono ?_
  rintro e w11 ⟨A8, c8, rfl, ho8, h11, hg11⟩
  have H11 := Lib.hid (And.intro h11 (And.intro (H10.out.2.grown hg11 (fun e => by injection e with e; omega)) ho8))
  have HG11 := Lib.hid (show q < w11.heap.size from H11.out.2.1.lt)
  have HS8 := Lib.hid (show w.heap.size ≤ (w10.setCell ⟨q, 7, none⟩ (.int .i64 (ei : Int))).heap.size from H10.out.1.below.size)
  have HQ8 := Lib.hid (show q < (w10.setCell ⟨q, 7, none⟩ (.int .i64 (ei : Int))).heap.size from H10.out.2.lt)
  clear h11 hg11 ho8
  go_wp2_with fail
  refine (H11.out.1.bytes HE.out.2.2.2.2.2.2.2.2.2).mono ?_
  rintro e w12 ⟨A9, c9, rfl, ho9, h12, hg12⟩
  have hK12 := H11.out.2.1.grown hg12 (fun e => by injection e with e; omega)
  have kc8 : w12.cell? ⟨q, 8, none⟩ = some (.slice none 0 0) := hK12.cell 8
  have kf8 := hK12.frozen 8
  have kc9 : w12.cell? ⟨q, 9, none⟩ = some (.slice none 0 0) := hK12.cell 9
  have kf9 := hK12.frozen 9
  have r8 : Row8 w12 w.heap.size A8 c8 b9 := own_base_le (H11.out.2.2.grown hg12 (fun k hk e => by injection hk with hk; have := (H11.out.2.2.rng e).1; have := HQ8.out; omega)) HS8.out
  have n8 : ∀ k, (Value.slice A8 (i8s b9).length c8).ownBlock = some k → q < k ∧ k < w11.heap.size := fun k hk => by have := H11.out.2.2.rng hk; have := HQ8.out; omega
  have n9 : ∀ k, (Value.slice A9 (i8s b10).length c9).ownBlock = some k → q < k ∧ w11.heap.size ≤ k := fun k hk => by have := ho9.rng hk; have := HG11.out; omega
  have r9 : Row8 w12 w.heap.size A9 c9 b10 := own_base_le ho9 H11.out.1.below.size
  have H12 := Lib.hid (And.intro ((h12.far hgq 8 (.slice A8 (i8s b9).length c8)).far hgq 9 (.slice A9 (i8s b10).length c9)) (And.intro ((hK12.set_ 8 (.slice A8 (i8s b9).length c8)).set_ 9 (.slice A9 (i8s b10).length c9))
    (And.intro ((r8.far (fun k e => (n8 k e).1) 8 (.slice A8 (i8s b9).length c8)).far (fun k e => (n8 k e).1) 9 (.slice A9 (i8s b10).length c9))
    (And.intro ((r9.far (fun k e => (n9 k e).1) 8 (.slice A8 (i8s b9).length c8)).far (fun k e => (n9 k e).1) 9 (.slice A9 (i8s b10).length c9))
    (And.intro n8 n9)))))
  clear h12 hg12 hK12 r8 r9 n8 n9 ho9
  go_wp2_with fail
  clear kc8 kf8 kc9 kf9
  obtain ⟨w13, hw13⟩ : ∃ w13, w13 = (w12.setCell ⟨q, 8, none⟩ (.slice A8 (i8s b9).length c8)).setCell ⟨q, 9, none⟩ (.slice A9 (i8s b10).length c9) := ⟨_, rfl⟩
  rw [← hw13]
  have H13 := Lib.hid (show RS w w13 g B10 d10 ∧ Blk w13 q 27 #[.int .u64 (x1 : Int), .int .u64 (x2 : Int), .string ⟨t3.toArray⟩, .int .i64 (ki : Int), .string ⟨t5.toArray⟩, .string ⟨t6.toArray⟩, .int .u64 (x7 : Int), .int .i64 (ei : Int), .slice A8 (i8s b9).length c8, .slice A9 (i8s b10).length c9]
    ∧ Row8 w13 w.heap.size A8 c8 b9 ∧ Row8 w13 w.heap.size A9 c9 b10 from by rw [hw13]; exact ⟨H12.out.1, H12.out.2.1, H12.out.2.2.1, H12.out.2.2.2.1⟩)
  have HN := Lib.hid H12.out.2.2.2.2
  clear hw13 H12
  refine H13.out.1.done.mono ?_
  rintro e w14 ⟨rfl, rfl⟩
  have hu2 : Try.prog.underlying 27 = _ := hu
  rcases dC_or B10 d10 with hd | hd
  · have HD := Lib.hid hd
    obtain ⟨rt, hrt⟩ : ∃ rt, rt = (restB (ki : Int) (ei : Int) t3.length t5.length t6.length && (sumB (i8s b9).length && prevB (x1 : Int) (i8s b10).length)) := ⟨_, rfl⟩
    have HF := Lib.hid (show audit_right.f (0 + 1) (x1 : Int) (x2 : Int) ⟨t3.toArray⟩ (ki : Int) ⟨t5.toArray⟩ ⟨t6.toArray⟩ (x7 : Int) (ei : Int) (i8s b9) (i8s b10) = some rt from by rw [aright_f 0 (by omega), hrt]; simp [ByteArray.size])
    have HG := Lib.hid (show rightFs ⟨x1, x2, t3, x4, t5, t6, x7, x8, b9, b10, B10, d10⟩ = rt from by rw [hrt, restB_min HKE.out.1 HKE.out.2, i8s_length, i8s_length]; rfl)
    have r8 := H13.out.2.2.1.reads
    have r9 := H13.out.2.2.2.reads
    have HR8 := Lib.hid r8
    have HR9 := Lib.hid r9
    rw [hd]
    clear hd r8 r9 hrt
    go_wp2_with (first
      | ((with_reducible refine gate_dst (N := 44) rfl ?_); (try (refine gate_guard (by rfl) ?_; dsimp only)); refine wpList_load_row (o := ⟨some 44, _, _, _, _, _⟩) (by rfl) 27 (.tmp 5) (by rfl) q (by rfl) 27 #[.int .u64 (x1 : Int), .int .u64 (x2 : Int), .string ⟨t3.toArray⟩, .int .i64 (ki : Int), .string ⟨t5.toArray⟩, .string ⟨t6.toArray⟩, .int .u64 (x7 : Int), .int .i64 (ei : Int), .slice A8 (i8s b9).length c8, .slice A9 (i8s b10).length c9] (0, 0) _ H13.out.2.1 hu2 rfl (size_ten _ rfl) ?_)
      | fail)
    refine (audit_right.calls 1 (x1 : Int) (x2 : Int) ⟨t3.toArray⟩ (ki : Int) ⟨t5.toArray⟩ ⟨t6.toArray⟩ (x7 : Int) (ei : Int) A8 c8 (i8s b9) A9 c9 (i8s b10) rt w14 HR8.out.1 HR8.out.2 HR9.out.1 HR9.out.2 HF.out).mono ?_
    rintro e w15 ⟨rfl, hb15⟩
    have HB15 := Lib.hid hb15
    clear hb15
    cases rt with
    | false =>
      go_wp2_with (first
        | (refine wpList_store_blk (o := ⟨none, _, _, _, _, _⟩) (by rfl) 27 (.tmp 2) (.tmp 48) (by rfl) w.heap.size 27 zrec zrec (by rfl) (by rfl) (H13.out.1.zb.after HB15.out) (by rfl) (size_ten _ rfl) (one_ten _ _ _ _ _ _ _ _) ?_; intro w16 hK16 hg16 hz16)
        | fail)
      refine bodyPost_ret (results_row_tmp (by rfl) _ _ w.heap.size 27 zrec _ (by rfl) hK16 hu2 rfl (size_ten _ rfl)) rfl ?_
      have hg : ¬ goodFs ⟨x1, x2, t3, x4, t5, t6, x7, x8, b9, b10, B10, d10⟩ = true := by unfold goodFs; rw [HG.out]; simp
      unfold recOf
      rw [if_neg hg]
      have hb := below_then H13.out.1.below HB15.out
      exact ⟨.slice none 0 0, .slice none 0 0, rfl, Kd.R_nil _ _ _ _ _, Kd.R_nil _ _ _ _ _, hb.grown hg16 hb.size (fun k hk => by injection hk with hk; omega)⟩
    | true =>
      go_wp2_with (first
        | (refine wpList_load_row (o := ⟨some 49, _, _, _, _, _⟩) (by rfl) 27 (.tmp 5) (by rfl) q (by rfl) 27 #[.int .u64 (x1 : Int), .int .u64 (x2 : Int), .string ⟨t3.toArray⟩, .int .i64 (ki : Int), .string ⟨t5.toArray⟩, .string ⟨t6.toArray⟩, .int .u64 (x7 : Int), .int .i64 (ei : Int), .slice A8 (i8s b9).length c8, .slice A9 (i8s b10).length c9] (0, 0) _ (H13.out.2.1.after HB15.out) hu2 rfl (size_ten _ rfl) ?_)
        | (refine wpList_store_blk (o := ⟨none, _, _, _, _, _⟩) (by rfl) 27 (.tmp 2) (.tmp 49) (by rfl) w.heap.size 27 zrec #[.int .u64 (x1 : Int), .int .u64 (x2 : Int), .string ⟨t3.toArray⟩, .int .i64 (ki : Int), .string ⟨t5.toArray⟩, .string ⟨t6.toArray⟩, .int .u64 (x7 : Int), .int .i64 (ei : Int), .slice A8 (i8s b9).length c8, .slice A9 (i8s b10).length c9] (by rfl) (by rfl) (H13.out.1.zb.after HB15.out) (by rfl) (size_ten _ rfl) (one_all _ _ _ _ _ _ _ _ _ _ _ _ _ _) ?_; intro w16 hK16 hg16 hz16)
        | fail)
      refine bodyPost_ret (results_row_tmp (by rfl) _ _ w.heap.size 27 #[.int .u64 (x1 : Int), .int .u64 (x2 : Int), .string ⟨t3.toArray⟩, .int .i64 (ki : Int), .string ⟨t5.toArray⟩, .string ⟨t6.toArray⟩, .int .u64 (x7 : Int), .int .i64 (ei : Int), .slice A8 (i8s b9).length c8, .slice A9 (i8s b10).length c9] _ (by rfl) hK16 hu2 rfl (size_ten _ rfl)) rfl ?_
      have hg : goodFs ⟨x1, x2, t3, x4, t5, t6, x7, x8, b9, b10, B10, d10⟩ = true := by unfold goodFs; rw [HG.out, HD.out]; rfl
      have hr : restB (x4 : Int) (x8 : Int) t3.length t5.length t6.length = true := by
        have := HG.out
        unfold rightFs at this
        rw [Bool.and_eq_true] at this
        exact this.1
      unfold restB at hr
      rw [decide_eq_true_eq] at hr
      have ek : ki = x4 := by rw [HKE.out.1, if_neg (by omega)]
      have ee : ei = x8 := by rw [HKE.out.2, if_neg (by omega)]
      subst ek ee
      unfold recOf
      rw [if_pos hg]
      have hb := below_then H13.out.1.below HB15.out
      have s8 := H13.out.2.2.1.grown (only_of_below HB15.out none) (by simp)
      have s9 := H13.out.2.2.2.grown (only_of_below HB15.out none) (by simp)
      have t8 := s8.grown hg16 (fun k hk e => by injection hk with hk; have := (HN.out.1 _ e).1; have := H13.out.1.ge; omega)
      have t9 := s9.grown hg16 (fun k hk e => by injection hk with hk; have := (HN.out.2 _ e).1; have := H13.out.1.ge; omega)
      refine ⟨.slice A8 (i8s b9).length c8, .slice A9 (i8s b10).length c9, rfl, own_u8 t8 (fun k hk e => ?_), own_u8 t9 (fun k hk e => ?_), hb.grown hg16 hb.size (fun k hk => by injection hk with hk; omega)⟩
      · have h1 := (HN.out.1 _ hk).2
        have h2 := (HN.out.2 _ e.symm).2
        omega
      · have h1 := (HN.out.1 _ e.symm).2
        have h2 := (HN.out.2 _ hk).2
        omega
  · have HD := Lib.hid hd
    rw [hd]
    clear hd
    go_wp2_with (first
      | (refine wpList_store_blk (o := ⟨none, _, _, _, _, _⟩) (by rfl) 27 (.tmp 2) (.tmp 48) (by rfl) w.heap.size 27 zrec zrec (by rfl) (by rfl) H13.out.1.zb (by rfl) (size_ten _ rfl) (one_ten _ _ _ _ _ _ _ _) ?_; intro w15 hK15 hg15 hz15)
      | fail)
    refine bodyPost_ret (results_row_tmp (by rfl) _ _ w.heap.size 27 zrec _ (by rfl) hK15 hu2 rfl (size_ten _ rfl)) rfl ?_
    have hg : ¬ goodFs ⟨x1, x2, t3, x4, t5, t6, x7, x8, b9, b10, B10, d10⟩ = true := by unfold goodFs; rw [HD.out]; simp
    unfold recOf
    rw [if_neg hg]
    exact ⟨.slice none 0 0, .slice none 0 0, rfl, Kd.R_nil _ _ _ _ _, Kd.R_nil _ _ _ _ _, H13.out.1.below.grown hg15 H13.out.1.below.size (fun k hk => by injection hk with hk; omega)⟩
end Go.Proofs.Ytjnakhgpenafdaa
