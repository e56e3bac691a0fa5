import Derived.Test.YtjnakhgpenafdaaGA
import Derived.Deep.RegionHeld3
import Derived.Deep.DrawnRows
import Derived.Test.YtjnakhgpenafdaaGR
import Derived.Test.YtjnakhgpenafdaaGS
import Derived.Deep.DeepCutAuto
import Derived.Deep.CutBlock
/- Records: as plain data, and as the program holds them. -/
namespace Go.Proofs.Ytjnakhgpenafdaa
open Go.RowKit
set_option linter.unusedVariables false

structure Rec where
  (seq clock : Nat) (who : ByteArray) (kind : Int) (bucket key : ByteArray) (version : Nat) (err : Int) (sum prev : List UInt8)

/-- where a record's two slices lie -/
structure At where
  (sA : Option Addr) (sn sc : Nat) (pA : Option Addr) (pn pc : Nat)
def recCells (r : Rec) (a : At) : Array Value :=
  #[.int .u64 (r.seq : Int), .int .u64 (r.clock : Int), .string r.who, .int .i64 r.kind, .string r.bucket, .string r.key, .int .u64 (r.version : Int), .int .i64 r.err, .slice a.sA a.sn a.sc, .slice a.pA a.pn a.pc]
/-- the record's slices read so in this world -/
structure RecAt (w : World) (B : Nat) (r : Rec) (a : At) : Prop where
  sum : Reads w B 1 a.sA a.sn (B8 r.sum)
  prev : Reads w B 1 a.pA a.pn (B8 r.prev)
theorem RecAt.up {w w1 : World} {r : Rec} {a : At} (h : RecAt w w.heap.size r a) (hb : Below w.heap.size w w1) : RecAt w1 w1.heap.size r a := ⟨h.sum.up hb, h.prev.up hb⟩
theorem RecAt.alloc {w : World} {r : Rec} {a : At} (h : RecAt w w.heap.size r a) (o : Obj) : RecAt (w.alloc o) (w.alloc o).heap.size r a := h.up ((Below.refl _ _).alloc (Nat.le_refl _) _)
/-- the numbers are of their kinds, and nothing is too great -/
structure Rec.Ok (r : Rec) : Prop where
  seq : r.seq < 18446744073709551616
  clock : r.clock < 18446744073709551616
  version : r.version < 18446744073709551616
  kind : -9223372036854775808 ≤ r.kind ∧ r.kind ≤ 9223372036854775807
  err : -9223372036854775808 ≤ r.err ∧ r.err ≤ 9223372036854775807
structure Rec.Small (r : Rec) : Prop where
  who : r.who.size ≤ 5000
  bucket : r.bucket.size ≤ 5000
  key : r.key.size ≤ 5000
  sum : r.sum.length ≤ 5000
  prev : r.prev.length ≤ 5000
theorem rec_cells {w : World} {g : Nat} {r : Rec} {a : At} (h : Blk w g 27 (recCells r a)) :
    w.cell? ⟨g, 0, none⟩ = some (.int .u64 (r.seq : Int)) ∧ w.cell? ⟨g, 1, none⟩ = some (.int .u64 (r.clock : Int)) ∧ w.cell? ⟨g, 2, none⟩ = some (.string r.who) ∧ w.cell? ⟨g, 3, none⟩ = some (.int .i64 r.kind) ∧
    w.cell? ⟨g, 4, none⟩ = some (.string r.bucket) ∧ w.cell? ⟨g, 5, none⟩ = some (.string r.key) ∧ w.cell? ⟨g, 6, none⟩ = some (.int .u64 (r.version : Int)) ∧ w.cell? ⟨g, 7, none⟩ = some (.int .i64 r.err) ∧
    w.cell? ⟨g, 8, none⟩ = some (.slice a.sA a.sn a.sc) ∧ w.cell? ⟨g, 9, none⟩ = some (.slice a.pA a.pn a.pc) :=
  ⟨h.cell 0, h.cell 1, h.cell 2, h.cell 3, h.cell 4, h.cell 5, h.cell 6, h.cell 7, h.cell 8, h.cell 9⟩
/-- what Show has of a record -/
def Rec.show8 (r : Rec) : List UInt8 :=
  Cn.bytes (Cn.bytes (Cn.uint (Cn.uint (Cn.text (Cn.text (Cn.uint (Cn.text (Cn.uint (Cn.uint [] r.seq) r.clock) r.who.data.toList) r.kind.toNat) r.bucket.data.toList) r.key.data.toList) r.version) r.err.toNat) r.sum) r.prev
end Go.Proofs.Ytjnakhgpenafdaa
/- steleref14: what each function hands back. -/
namespace Go.Proofs.Ytjnakhgpenafdaa
open Go.RowKit
set_option linter.unusedVariables false
set_option linter.unusedSimpArgs false
attribute [local go_sem] max2_zero max_two

set_option maxHeartbeats 1000000 in
theorem rshow_any (r : Rec) (a : At) (w : World) (hr : RecAt w w.heap.size r a) (ho : r.Ok) (hs : r.Small) :
    Calls Try.prog 19 #[.agg (recCells r a)] w (RetB w r.show8) := by
  have g1 : r.who.data.toList.length ≤ 5000 := by rw [Array.length_toList]; exact hs.who
  have g2 : r.bucket.data.toList.length ≤ 5000 := by rw [Array.length_toList]; exact hs.bucket
  have g3 : r.key.data.toList.length ≤ 5000 := by rw [Array.length_toList]; exact hs.key
  obtain ⟨⟨h1, h2, h3, ⟨h4, h4'⟩, ⟨h5, h5'⟩⟩, ⟨h6, h7, h8, h9, h10⟩⟩ := And.intro ho hs
  have h4b : (r.kind.toNat : Int) ≤ 9223372036854775807 := by omega
  have h5b : (r.err.toNat : Int) ≤ 9223372036854775807 := by omega
  have HR := Lib.hid hr
  have HB0 := Lib.hid ((Below.refl w.heap.size w).alloc (Nat.le_refl _) (.cells (recCells r a) 27))
  have HK0 := Lib.hid (Blk.new w 27 (recCells r a))
  clear hr hs ho
  show Calls Try.prog 19 #[.agg #[.int .u64 (r.seq : Int), .int .u64 (r.clock : Int), .string r.who, .int .i64 r.kind, .string r.bucket, .string r.key, .int .u64 (r.version : Int), .int .i64 r.err, .slice a.sA a.sn a.sc, .slice a.pA a.pn a.pc]] w (RetB w r.show8)
  go_enter Try.func19, Try.ntmps19
  go_wp2_with fail
  with_reducible refine (ruint_any none 0 0 ([] : List UInt8) r.seq _ Reads.none_ (by simp only [Cn.uint_length, Cn.text_length, Cn.bytes_length, List.length_nil]; omega)).mono ?_
  rintro e w1 ⟨A1, n1, c1, rfl, ho1⟩
  have HO1 := Lib.hid ho1
  have HB1 := Lib.hid (below_then HB0.out ho1.below)
  have HK1 := Lib.hid (HK0.out.after ho1.below)
  clear ho1
  have k := (rec_cells HK1.out).2.1
  go_wp2_with fail
  clear k
  with_reducible refine (ruint_any A1 n1 c1 (Cn.uint ([] : List UInt8) r.seq) r.clock w1 HO1.out.reads (by simp only [Cn.uint_length, Cn.text_length, Cn.bytes_length, List.length_nil]; omega)).mono ?_
  rintro e w2 ⟨A2, n2, c2, rfl, ho2⟩
  have HO2 := Lib.hid ho2
  have HB2 := Lib.hid (below_then HB1.out ho2.below)
  have HK2 := Lib.hid (HK1.out.after ho2.below)
  clear ho2
  have k := (rec_cells HK2.out).2.2.1
  go_wp2_with fail
  clear k
  with_reducible refine (rtext_any A2 n2 c2 (Cn.uint (Cn.uint ([] : List UInt8) r.seq) r.clock) r.who w2 HO2.out.reads (by simp only [Cn.uint_length, Cn.text_length, Cn.bytes_length, List.length_nil]; omega)).mono ?_
  rintro e w3 ⟨A3, n3, c3, rfl, ho3⟩
  have HO3 := Lib.hid ho3
  have HB3 := Lib.hid (below_then HB2.out ho3.below)
  have HK3 := Lib.hid (HK2.out.after ho3.below)
  clear ho3
  have k := (rec_cells HK3.out).2.2.2.1
  go_wp2_with fail
  clear k
  rw [show max r.kind 0 = (r.kind.toNat : Int) from (Int.ofNat_toNat _).symm]
  with_reducible refine (ruint_any A3 n3 c3 (Cn.text (Cn.uint (Cn.uint ([] : List UInt8) r.seq) r.clock) r.who.data.toList) r.kind.toNat w3 HO3.out.reads (by simp only [Cn.uint_length, Cn.text_length, Cn.bytes_length, List.length_nil]; omega)).mono ?_
  rintro e w4 ⟨A4, n4, c4, rfl, ho4⟩
  have HO4 := Lib.hid ho4
  have HB4 := Lib.hid (below_then HB3.out ho4.below)
  have HK4 := Lib.hid (HK3.out.after ho4.below)
  clear ho4
  have k := (rec_cells HK4.out).2.2.2.2.1
  go_wp2_with fail
  clear k
  with_reducible refine (rtext_any A4 n4 c4 (Cn.uint (Cn.text (Cn.uint (Cn.uint ([] : List UInt8) r.seq) r.clock) r.who.data.toList) r.kind.toNat) r.bucket w4 HO4.out.reads (by simp only [Cn.uint_length, Cn.text_length, Cn.bytes_length, List.length_nil]; omega)).mono ?_
  rintro e w5 ⟨A5, n5, c5, rfl, ho5⟩
  have HO5 := Lib.hid ho5
  have HB5 := Lib.hid (below_then HB4.out ho5.below)
  have HK5 := Lib.hid (HK4.out.after ho5.below)
  clear ho5
  have k := (rec_cells HK5.out).2.2.2.2.2.1
  go_wp2_with fail
  clear k
  with_reducible refine (rtext_any A5 n5 c5 (Cn.text (Cn.uint (Cn.text (Cn.uint (Cn.uint ([] : List UInt8) r.seq) r.clock) r.who.data.toList) r.kind.toNat) r.bucket.data.toList) r.key w5 HO5.out.reads (by simp only [Cn.uint_length, Cn.text_length, Cn.bytes_length, List.length_nil]; omega)).mono ?_
  rintro e w6 ⟨A6, n6, c6, rfl, ho6⟩
  have HO6 := Lib.hid ho6
  have HB6 := Lib.hid (below_then HB5.out ho6.below)
  have HK6 := Lib.hid (HK5.out.after ho6.below)
  clear ho6
  have k := (rec_cells HK6.out).2.2.2.2.2.2.1
  go_wp2_with fail
  clear k
  with_reducible refine (ruint_any A6 n6 c6 (Cn.text (Cn.text (Cn.uint (Cn.text (Cn.uint (Cn.uint ([] : List UInt8) r.seq) r.clock) r.who.data.toList) r.kind.toNat) r.bucket.data.toList) r.key.data.toList) r.version w6 HO6.out.reads (by simp only [Cn.uint_length, Cn.text_length, Cn.bytes_length, List.length_nil]; omega)).mono ?_
  rintro e w7 ⟨A7, n7, c7, rfl, ho7⟩
  have HO7 := Lib.hid ho7
  have HB7 := Lib.hid (below_then HB6.out ho7.below)
  have HK7 := Lib.hid (HK6.out.after ho7.below)
  clear ho7
  have k := (rec_cells HK7.out).2.2.2.2.2.2.2.1
  go_wp2_with fail
  clear k
  rw [show max r.err 0 = (r.err.toNat : Int) from (Int.ofNat_toNat _).symm]
  with_reducible refine (ruint_any A7 n7 c7 (Cn.uint (Cn.text (Cn.text (Cn.uint (Cn.text (Cn.uint (Cn.uint ([] : List UInt8) r.seq) r.clock) r.who.data.toList) r.kind.toNat) r.bucket.data.toList) r.key.data.toList) r.version) r.err.toNat w7 HO7.out.reads (by simp only [Cn.uint_length, Cn.text_length, Cn.bytes_length, List.length_nil]; omega)).mono ?_
  rintro e w8 ⟨A8, n8, c8, rfl, ho8⟩
  have HO8 := Lib.hid ho8
  have HB8 := Lib.hid (below_then HB7.out ho8.below)
  have HK8 := Lib.hid (HK7.out.after ho8.below)
  clear ho8
  have k := (rec_cells HK8.out).2.2.2.2.2.2.2.2.1
  go_wp2_with fail
  clear k
  with_reducible refine (rbytes_any A8 n8 c8 (Cn.uint (Cn.uint (Cn.text (Cn.text (Cn.uint (Cn.text (Cn.uint (Cn.uint ([] : List UInt8) r.seq) r.clock) r.who.data.toList) r.kind.toNat) r.bucket.data.toList) r.key.data.toList) r.version) r.err.toNat) a.sA a.sn a.sc r.sum w8 HO8.out.reads (HR.out.up HB8.out).sum (by simp only [Cn.uint_length, Cn.text_length, Cn.bytes_length, List.length_nil]; omega)).mono ?_
  rintro e w9 ⟨A9, n9, c9, rfl, ho9⟩
  have HO9 := Lib.hid ho9
  have HB9 := Lib.hid (below_then HB8.out ho9.below)
  have HK9 := Lib.hid (HK8.out.after ho9.below)
  clear ho9
  have k := (rec_cells HK9.out).2.2.2.2.2.2.2.2.2
  go_wp2_with fail
  clear k
  with_reducible refine (rbytes_any A9 n9 c9 (Cn.bytes (Cn.uint (Cn.uint (Cn.text (Cn.text (Cn.uint (Cn.text (Cn.uint (Cn.uint ([] : List UInt8) r.seq) r.clock) r.who.data.toList) r.kind.toNat) r.bucket.data.toList) r.key.data.toList) r.version) r.err.toNat) r.sum) a.pA a.pn a.pc r.prev w9 HO9.out.reads (HR.out.up HB9.out).prev (by simp only [Cn.uint_length, Cn.text_length, Cn.bytes_length, List.length_nil]; omega)).mono ?_
  rintro e w10 ⟨A10, n10, c10, rfl, ho10⟩
  have HO10 := Lib.hid ho10
  have HB10 := Lib.hid (below_then HB9.out ho10.below)
  have HK10 := Lib.hid (HK9.out.after ho10.below)
  clear ho10
  go_wp2_with fail
  go_ret
  exact RetB.of_call HB9.out HO10.out

end Go.Proofs.Ytjnakhgpenafdaa
/- audit.Show: the bytes of a record. -/
namespace Go.Proofs.Ytjnakhgpenafdaa
open Go.RowKit
set_option linter.unusedVariables false
set_option linter.unusedSimpArgs false
attribute [local go_sem] max2_zero max_two

set_option maxRecDepth 100000 in
set_option maxHeartbeats 3000000 in
theorem show_any (r : Rec) (a : At) (w : World) (hr : RecAt w w.heap.size r a) (ho : r.Ok) (hs : r.Small) :
    Calls Try.prog 18 #[.agg (recCells r a)] w (RetB w r.show8) := by
  have g1 : r.who.data.toList.length ≤ 5000 := by rw [Array.length_toList]; exact hs.who
  have g2 : r.bucket.data.toList.length ≤ 5000 := by rw [Array.length_toList]; exact hs.bucket
  have g3 : r.key.data.toList.length ≤ 5000 := by rw [Array.length_toList]; exact hs.key
  obtain ⟨⟨h1, h2, h3, ⟨h4, h4'⟩, ⟨h5, h5'⟩⟩, ⟨h6, h7, h8, h9, h10⟩⟩ := And.intro ho hs
  have h4b : (r.kind.toNat : Int) ≤ 9223372036854775807 := by omega
  have h5b : (r.err.toNat : Int) ≤ 9223372036854775807 := by omega
  have HR := Lib.hid hr
  have HB0 := Lib.hid ((Below.refl w.heap.size w).alloc (Nat.le_refl _) (.cells (recCells r a) 27))
  have HK0 := Lib.hid (Blk.new w 27 (recCells r a))
  clear hr hs ho
  show Calls Try.prog 18 #[.agg #[.int .u64 (r.seq : Int), .int .u64 (r.clock : Int), .string r.who, .int .i64 r.kind, .string r.bucket, .string r.key, .int .u64 (r.version : Int), .int .i64 r.err, .slice a.sA a.sn a.sc, .slice a.pA a.pn a.pc]] w (RetB w r.show8)
  go_enter Try.func18, Try.ntmps18
  go_wp2_with fail
  go_region_held3 (fun w' => w'.cell? ⟨w.heap.size, 0, none⟩ = some (.int .u64 (r.seq : Int)) ∧ w'.cell? ⟨w.heap.size, 1, none⟩ = some (.int .u64 (r.clock : Int)))
    (first | exact ⟨(rec_cells HK2.out).1, (rec_cells HK2.out).2.1⟩ | exact ⟨(rec_cells HK1.out).1, (rec_cells HK1.out).2.1⟩ | exact ⟨(rec_cells HK0.out).1, (rec_cells HK0.out).2.1⟩ | go_keep)
    (first
      | (go_at_call 29; (with_reducible refine (uint_any none 0 0 ([] : List UInt8) r.seq _ Reads.none_ h1 (by simp only [Cn.uint_length, Cn.text_length, Cn.bytes_length, List.length_nil]; omega)).mono ?_); rintro e w1 ⟨A1, n1, c1, rfl, ho1⟩; have HO1 := Lib.hid ho1; have HB1 := Lib.hid (below_then HB0.out.drew ho1.below); have HK1 := Lib.hid (HK0.out.drew.after ho1.below); clear ho1)
      | (go_at_call 29; (with_reducible refine (uint_any A1 n1 c1 (Cn.uint ([] : List UInt8) r.seq) r.clock _ HO1.out.reads h2 (by simp only [Cn.uint_length, Cn.text_length, Cn.bytes_length, List.length_nil]; omega)).mono ?_); rintro e w2 ⟨A2, n2, c2, rfl, ho2⟩; have HO2 := Lib.hid ho2; have HB2 := Lib.hid (below_then HB1.out ho2.below); have HK2 := Lib.hid (HK1.out.after ho2.below); clear ho2))
  go_wp2_with fail
  go_region_held3 (fun w' => w'.cell? ⟨w.heap.size, 2, none⟩ = some (.string r.who) ∧ w'.cell? ⟨w.heap.size, 3, none⟩ = some (.int .i64 r.kind))
    (first | exact ⟨(rec_cells HK4.out).2.2.1, (rec_cells HK4.out).2.2.2.1⟩ | exact ⟨(rec_cells HK3.out).2.2.1, (rec_cells HK3.out).2.2.2.1⟩ | exact ⟨(rec_cells HK2.out).2.2.1, (rec_cells HK2.out).2.2.2.1⟩ | go_keep)
    (first
      | (go_at_call 30; (with_reducible refine (text_any A2 n2 c2 (Cn.uint (Cn.uint ([] : List UInt8) r.seq) r.clock) r.who _ HO2.out.reads_drew (by simp only [Cn.uint_length, Cn.text_length, Cn.bytes_length, List.length_nil]; omega)).mono ?_); rintro e w3 ⟨A3, n3, c3, rfl, ho3⟩; have HO3 := Lib.hid ho3; have HB3 := Lib.hid (below_then HB2.out.drew ho3.below); have HK3 := Lib.hid (HK2.out.drew.after ho3.below); clear ho3)
      | (go_at_call 29; rw [show max r.kind 0 = (r.kind.toNat : Int) from (Int.ofNat_toNat _).symm]; rw [wrap_u64_nat _ (by omega)]; (with_reducible refine (uint_any A3 n3 c3 (Cn.text (Cn.uint (Cn.uint ([] : List UInt8) r.seq) r.clock) r.who.data.toList) r.kind.toNat _ HO3.out.reads (by omega) (by simp only [Cn.uint_length, Cn.text_length, Cn.bytes_length, List.length_nil]; omega)).mono ?_); rintro e w4 ⟨A4, n4, c4, rfl, ho4⟩; have HO4 := Lib.hid ho4; have HB4 := Lib.hid (below_then HB3.out ho4.below); have HK4 := Lib.hid (HK3.out.after ho4.below); clear ho4))
  all_goals
    go_wp2_with fail
    go_region_held3 (fun w' => w'.cell? ⟨w.heap.size, 4, none⟩ = some (.string r.bucket) ∧ w'.cell? ⟨w.heap.size, 5, none⟩ = some (.string r.key))
      (first | exact ⟨(rec_cells HK6.out).2.2.2.2.1, (rec_cells HK6.out).2.2.2.2.2.1⟩ | exact ⟨(rec_cells HK5.out).2.2.2.2.1, (rec_cells HK5.out).2.2.2.2.2.1⟩ | exact ⟨(rec_cells HK4.out).2.2.2.2.1, (rec_cells HK4.out).2.2.2.2.2.1⟩ | go_keep)
      (first
        | (go_at_call 30; (with_reducible refine (text_any A4 n4 c4 (Cn.uint (Cn.text (Cn.uint (Cn.uint ([] : List UInt8) r.seq) r.clock) r.who.data.toList) r.kind.toNat) r.bucket _ HO4.out.reads_drew (by simp only [Cn.uint_length, Cn.text_length, Cn.bytes_length, List.length_nil]; omega)).mono ?_); rintro e w5 ⟨A5, n5, c5, rfl, ho5⟩; have HO5 := Lib.hid ho5; have HB5 := Lib.hid (below_then HB4.out.drew ho5.below); have HK5 := Lib.hid (HK4.out.drew.after ho5.below); clear ho5)
        | (go_at_call 30; (with_reducible refine (text_any A5 n5 c5 (Cn.text (Cn.uint (Cn.text (Cn.uint (Cn.uint ([] : List UInt8) r.seq) r.clock) r.who.data.toList) r.kind.toNat) r.bucket.data.toList) r.key _ HO5.out.reads (by simp only [Cn.uint_length, Cn.text_length, Cn.bytes_length, List.length_nil]; omega)).mono ?_); rintro e w6 ⟨A6, n6, c6, rfl, ho6⟩; have HO6 := Lib.hid ho6; have HB6 := Lib.hid (below_then HB5.out ho6.below); have HK6 := Lib.hid (HK5.out.after ho6.below); clear ho6))
    go_wp2_with fail
    go_region_held3 (fun w' => w'.cell? ⟨w.heap.size, 6, none⟩ = some (.int .u64 (r.version : Int)) ∧ w'.cell? ⟨w.heap.size, 7, none⟩ = some (.int .i64 r.err))
      (first | exact ⟨(rec_cells HK8.out).2.2.2.2.2.2.1, (rec_cells HK8.out).2.2.2.2.2.2.2.1⟩ | exact ⟨(rec_cells HK7.out).2.2.2.2.2.2.1, (rec_cells HK7.out).2.2.2.2.2.2.2.1⟩ | exact ⟨(rec_cells HK6.out).2.2.2.2.2.2.1, (rec_cells HK6.out).2.2.2.2.2.2.2.1⟩ | go_keep)
      (first
        | (go_at_call 29; (with_reducible refine (uint_any A6 n6 c6 (Cn.text (Cn.text (Cn.uint (Cn.text (Cn.uint (Cn.uint ([] : List UInt8) r.seq) r.clock) r.who.data.toList) r.kind.toNat) r.bucket.data.toList) r.key.data.toList) r.version _ HO6.out.reads_drew h3 (by simp only [Cn.uint_length, Cn.text_length, Cn.bytes_length, List.length_nil]; omega)).mono ?_); rintro e w7 ⟨A7, n7, c7, rfl, ho7⟩; have HO7 := Lib.hid ho7; have HB7 := Lib.hid (below_then HB6.out.drew ho7.below); have HK7 := Lib.hid (HK6.out.drew.after ho7.below); clear ho7)
        | (go_at_call 29; rw [show max r.err 0 = (r.err.toNat : Int) from (Int.ofNat_toNat _).symm]; rw [wrap_u64_nat _ (by omega)]; (with_reducible refine (uint_any A7 n7 c7 (Cn.uint (Cn.text (Cn.text (Cn.uint (Cn.text (Cn.uint (Cn.uint ([] : List UInt8) r.seq) r.clock) r.who.data.toList) r.kind.toNat) r.bucket.data.toList) r.key.data.toList) r.version) r.err.toNat _ HO7.out.reads (by omega) (by simp only [Cn.uint_length, Cn.text_length, Cn.bytes_length, List.length_nil]; omega)).mono ?_); rintro e w8 ⟨A8, n8, c8, rfl, ho8⟩; have HO8 := Lib.hid ho8; have HB8 := Lib.hid (below_then HB7.out ho8.below); have HK8 := Lib.hid (HK7.out.after ho8.below); clear ho8))
    all_goals
      go_wp2_with fail
      go_region_held3 (fun w' => w'.cell? ⟨w.heap.size, 8, none⟩ = some (.slice a.sA a.sn a.sc) ∧ w'.cell? ⟨w.heap.size, 9, none⟩ = some (.slice a.pA a.pn a.pc))
        (first | exact ⟨(rec_cells HK10.out).2.2.2.2.2.2.2.2.1, (rec_cells HK10.out).2.2.2.2.2.2.2.2.2⟩ | exact ⟨(rec_cells HK9.out).2.2.2.2.2.2.2.2.1, (rec_cells HK9.out).2.2.2.2.2.2.2.2.2⟩ | exact ⟨(rec_cells HK8.out).2.2.2.2.2.2.2.2.1, (rec_cells HK8.out).2.2.2.2.2.2.2.2.2⟩ | go_keep)
        (first
          | (go_at_call 31; (with_reducible refine (bytes_any A8 n8 c8 (Cn.uint (Cn.uint (Cn.text (Cn.text (Cn.uint (Cn.text (Cn.uint (Cn.uint ([] : List UInt8) r.seq) r.clock) r.who.data.toList) r.kind.toNat) r.bucket.data.toList) r.key.data.toList) r.version) r.err.toNat) a.sA a.sn a.sc r.sum _ HO8.out.reads_drew (HR.out.up HB8.out.drew).sum (by simp only [Cn.uint_length, Cn.text_length, Cn.bytes_length, List.length_nil]; omega)).mono ?_); rintro e w9 ⟨A9, n9, c9, rfl, ho9⟩; have HO9 := Lib.hid ho9; have HB9 := Lib.hid (below_then HB8.out.drew ho9.below); have HK9 := Lib.hid (HK8.out.drew.after ho9.below); clear ho9)
          | (go_at_call 31; (with_reducible refine (bytes_any A9 n9 c9 (Cn.bytes (Cn.uint (Cn.uint (Cn.text (Cn.text (Cn.uint (Cn.text (Cn.uint (Cn.uint ([] : List UInt8) r.seq) r.clock) r.who.data.toList) r.kind.toNat) r.bucket.data.toList) r.key.data.toList) r.version) r.err.toNat) r.sum) a.pA a.pn a.pc r.prev _ HO9.out.reads (HR.out.up HB9.out).prev (by simp only [Cn.uint_length, Cn.text_length, Cn.bytes_length, List.length_nil]; omega)).mono ?_); rintro e w10 ⟨A10, n10, c10, rfl, ho10⟩; have HO10 := Lib.hid ho10; have HB10 := Lib.hid (below_then HB9.out ho10.below); have HK10 := Lib.hid (HK9.out.after ho10.below); clear ho10))
      go_wp2_with fail
      go_ret
      exact RetB.of_call HB9.out HO10.out

end Go.Proofs.Ytjnakhgpenafdaa
/- Digest twice, audit.whole, audit.right, Same twice. -/
namespace Go.Proofs.Ytjnakhgpenafdaa
open Go.RowKit
set_option linter.unusedVariables false
set_option linter.unusedSimpArgs false

theorem show8_length (r : Rec) (h : r.Small) : r.show8.length ≤ 100000 := by
  have h1 := h.who; have h2 := h.bucket; have h3 := h.key; have h4 := h.sum; have h5 := h.prev
  have e : ∀ s : ByteArray, s.data.toList.length = s.size := fun s => by rw [Array.length_toList]; rfl
  simp only [Rec.show8, Cn.bytes, Cn.text, Cn.uint, List.length_append, Cn.part_length, e, List.length_nil]
  omega

theorem show_cs (r : Rec) (a : At) (cs : Array Value) (hcs : cs = recCells r a) (w : World) (hr : RecAt w w.heap.size r a) (ho : r.Ok) (hs : r.Small) :
    Calls Try.prog 18 #[.agg cs] w (RetB w r.show8) := by subst hcs; exact show_any r a w hr ho hs
theorem rshow_cs (r : Rec) (a : At) (cs : Array Value) (hcs : cs = recCells r a) (w : World) (hr : RecAt w w.heap.size r a) (ho : r.Ok) (hs : r.Small) :
    Calls Try.prog 19 #[.agg cs] w (RetB w r.show8) := by subst hcs; exact rshow_any r a w hr ho hs
set_option maxHeartbeats 4000000 in
theorem digest_any (r : Rec) (a : At) (w : World) (hr : RecAt w w.heap.size r a) (ho : r.Ok) (hs : r.Small) :
    Calls Try.prog 20 #[.agg (recCells r a)] w (RetB w (Sha.sha r.show8)) := by
  have HR := Lib.hid (And.intro (hr.alloc (.cells (recCells r a) 27)) (And.intro ho (And.intro hs (Blk.new w 27 (recCells r a)))))
  have hb0 : Below w.heap.size w (w.alloc (.cells (recCells r a) 27)) := (Below.refl _ _).alloc (Nat.le_refl _) _
  have HB0 := Lib.hid hb0
  clear hr ho hs hb0
  obtain ⟨cs, hcs⟩ : ∃ cs, cs = recCells r a := ⟨_, rfl⟩
  have hsz : (Try.prog.info? 27).map (·.size) = some cs.size := by rw [hcs]; kernel_rfl
  have HC := Lib.hid (And.intro hcs hsz)
  rw [← hcs] at HR HB0 ⊢
  clear hcs hsz
  go_enter Try.func20, Try.ntmps20
  go_wp2_with (first
    | (refine wpList_load_row (o := ⟨some 3, _, _, _, _, _⟩) (by rfl) 27 (.tmp 1) (by rfl) w.heap.size (by rfl) 27 cs (0, 0) _ HR.out.2.2.2 Try.underlying27 rfl HC.out.2 ?_)
    | (go_at_call 18; refine (show_cs r a cs HC.out.1 _ HR.out.1 HR.out.2.1 HR.out.2.2.1).mono ?_; rintro e w1 ⟨A1, n1, c1, rfl, hO1⟩)
    | (go_at_call 35; refine (dsha_any A1 n1 c1 r.show8 _ hO1.reads (own_cap hO1.own) (by rw [← hO1.len]; have := show8_length r HR.out.2.2.1; omega)).mono ?_; rintro e w2 ⟨A2, n2, c2, rfl, hO2⟩))
  go_ret
  exact RetB.of_call (below_then HB0.out hO1.below) hO2
set_option maxHeartbeats 4000000 in
theorem rdigest_any (r : Rec) (a : At) (w : World) (hr : RecAt w w.heap.size r a) (ho : r.Ok) (hs : r.Small) :
    Calls Try.prog 13 #[.agg (recCells r a)] w (RetB w (Sha.sha r.show8)) := by
  have HR := Lib.hid (And.intro (hr.alloc (.cells (recCells r a) 27)) (And.intro ho (And.intro hs (Blk.new w 27 (recCells r a)))))
  have hb0 : Below w.heap.size w (w.alloc (.cells (recCells r a) 27)) := (Below.refl _ _).alloc (Nat.le_refl _) _
  have HB0 := Lib.hid hb0
  clear hr ho hs hb0
  obtain ⟨cs, hcs⟩ : ∃ cs, cs = recCells r a := ⟨_, rfl⟩
  have hsz : (Try.prog.info? 27).map (·.size) = some cs.size := by rw [hcs]; kernel_rfl
  have HC := Lib.hid (And.intro hcs hsz)
  rw [← hcs] at HR HB0 ⊢
  clear hcs hsz
  go_enter Try.func13, Try.ntmps13
  go_wp2_with (first
    | (refine wpList_load_row (o := ⟨some 3, _, _, _, _, _⟩) (by rfl) 27 (.tmp 1) (by rfl) w.heap.size (by rfl) 27 cs (0, 0) _ HR.out.2.2.2 Try.underlying27 rfl HC.out.2 ?_)
    | (go_at_call 19; refine (rshow_cs r a cs HC.out.1 _ HR.out.1 HR.out.2.1 HR.out.2.2.1).mono ?_; rintro e w1 ⟨A1, n1, c1, rfl, hO1⟩)
    | (go_at_call 23; refine (rsha_any A1 n1 c1 r.show8 _ hO1.reads (by rw [← hO1.len]; have := show8_length r HR.out.2.2.1; omega)).mono ?_; rintro e w2 ⟨A2, n2, c2, rfl, hO2⟩))
  go_ret
  exact RetB.of_call (below_then HB0.out hO1.below) hO2
end Go.Proofs.Ytjnakhgpenafdaa
/- slices.Clone of bytes, in the printed words. -/
namespace Go.Proofs.Ytjnakhgpenafdaa
open Go.RowKit Go.Proofs.YtjnakhgpenafdaaW.PrintWords
def clone.f (l : List Int) : Option (List Int) := if (ok8 l && decide (l.length ≤ 140737488355328)) = true then some l else none
theorem clone.calls (A0 : Option Addr) (c0 : Nat) (l0 : List Int) (r : List Int) (w : World) (hr0 : Kd.C (Kd.int .u8) w A0 l0.length l0) (_hc0 : l0.length ≤ c0) (h : clone.f l0 = some r) :
    Calls Try.prog 50 #[.slice A0 l0.length c0] w fun e w' => ∃ v0_ : Value, e = .returned (v0_) ∧ Kd.R (Kd.int .u8) 5 w' w.heap.size (fun _ => True) v0_ r ∧ Below w.heap.size w w' := by
  unfold clone.f at h
  by_cases hg : (ok8 l0 && decide (l0.length ≤ 140737488355328)) = true
  · rw [if_pos hg] at h
    injection h with h
    subst h
    rw [Bool.and_eq_true, decide_eq_true_eq] at hg
    have hc := clone_any A0 l0.length c0 (u8s l0) w (reads_u8 hr0 hg.1) (by rw [u8s_length]; exact hg.2)
    refine hc.mono fun e w' hh => ?_
    have := hh.out_
    rw [i8s_u8s hg.1] at this
    exact this
  · rw [if_neg hg] at h; cases h
end Go.Proofs.Ytjnakhgpenafdaa
/- SHA-256 twice, in the printed words. -/
namespace Go.Proofs.Ytjnakhgpenafdaa
open Go.RowKit Go.Proofs.YtjnakhgpenafdaaW.PrintWords
def okSha (l : List Int) : Bool := ok8 l && decide (l.length ≤ 100000000)
def dsha.f (l : List Int) : Option (List Int) := if okSha l = true then some (i8s (Sha.sha (u8s l))) else none
def rsha.f (l : List Int) : Option (List Int) := if okSha l = true then some (i8s (Sha.sha (u8s l))) else none
theorem okSha_of {l : List Int} (h : okSha l = true) : ok8 l = true ∧ l.length ≤ 100000000 := by
  unfold okSha at h
  rw [Bool.and_eq_true, decide_eq_true_eq] at h
  exact h
theorem dsha.calls (A0 : Option Addr) (c0 : Nat) (l0 : List Int) (r : List Int) (w : World) (hr0 : Kd.C (Kd.int .u8) w A0 l0.length l0) (hc0 : l0.length ≤ c0) (h : dsha.f l0 = some r) :
    Calls Try.prog 35 #[.slice A0 l0.length c0] w fun e w' => ∃ v0_ : Value, e = .returned (v0_) ∧ Kd.R (Kd.int .u8) 5 w' w.heap.size (fun _ => True) v0_ r ∧ Below w.heap.size w w' := by
  unfold dsha.f at h
  by_cases hg : okSha l0 = true
  · rw [if_pos hg] at h
    injection h with h
    subst h
    have hg := okSha_of hg
    exact (dsha_any A0 l0.length c0 (u8s l0) w (reads_u8 hr0 hg.1) hc0 (by omega)).mono fun e w' hh => hh.out_
  · rw [if_neg hg] at h; cases h
theorem rsha.calls (A0 : Option Addr) (c0 : Nat) (l0 : List Int) (r : List Int) (w : World) (hr0 : Kd.C (Kd.int .u8) w A0 l0.length l0) (_hc0 : l0.length ≤ c0) (h : rsha.f l0 = some r) :
    Calls Try.prog 23 #[.slice A0 l0.length c0] w fun e w' => ∃ v0_ : Value, e = .returned (v0_) ∧ Kd.R (Kd.int .u8) 5 w' w.heap.size (fun _ => True) v0_ r ∧ Below w.heap.size w w' := by
  unfold rsha.f at h
  by_cases hg : okSha l0 = true
  · rw [if_pos hg] at h
    injection h with h
    subst h
    have hg := okSha_of hg
    exact (rsha_any A0 l0.length c0 (u8s l0) w (reads_u8 hr0 hg.1) (by omega)).mono fun e w' hh => hh.out_
  · rw [if_neg hg] at h; cases h
end Go.Proofs.Ytjnakhgpenafdaa
/- Show of a record, twice, in the printed words. -/
namespace Go.Proofs.Ytjnakhgpenafdaa
open Go.RowKit Go.Proofs.YtjnakhgpenafdaaW.PrintWords
set_option linter.unusedVariables false
/-- a record out of its printed cells -/
def mkRec (a0 a1 : Int) (a2 : ByteArray) (a3 : Int) (a4 a5 : ByteArray) (a6 a7 : Int) (l8 l9 : List Int) : Rec := ⟨a0.toNat, a1.toNat, a2, a3, a4, a5, a6.toNat, a7, u8s l8, u8s l9⟩
def okNums (a0 a1 a3 a6 a7 : Int) : Bool := decide (0 ≤ a0 ∧ a0 < 18446744073709551616 ∧ 0 ≤ a1 ∧ a1 < 18446744073709551616 ∧ 0 ≤ a6 ∧ a6 < 18446744073709551616 ∧ -9223372036854775808 ≤ a3 ∧ a3 ≤ 9223372036854775807 ∧ -9223372036854775808 ≤ a7 ∧ a7 ≤ 9223372036854775807)
def okRec (a0 a1 : Int) (a2 : ByteArray) (a3 : Int) (a4 a5 : ByteArray) (a6 a7 : Int) (l8 l9 : List Int) : Bool :=
  okNums a0 a1 a3 a6 a7 && (decide (a2.size ≤ 5000 ∧ a4.size ≤ 5000 ∧ a5.size ≤ 5000 ∧ l8.length ≤ 5000 ∧ l9.length ≤ 5000) && (ok8 l8 && ok8 l9))
structure OkRec (a0 a1 : Int) (a2 : ByteArray) (a3 : Int) (a4 a5 : ByteArray) (a6 a7 : Int) (l8 l9 : List Int) : Prop where
  ok : (mkRec a0 a1 a2 a3 a4 a5 a6 a7 l8 l9).Ok
  small : (mkRec a0 a1 a2 a3 a4 a5 a6 a7 l8 l9).Small
  s8 : ok8 l8 = true
  s9 : ok8 l9 = true
  e0 : ((a0.toNat : Nat) : Int) = a0
  e1 : ((a1.toNat : Nat) : Int) = a1
  e6 : ((a6.toNat : Nat) : Int) = a6
section
variable {a0 a1 : Int} {a2 : ByteArray} {a3 : Int} {a4 a5 : ByteArray} {a6 a7 : Int} {l8 l9 : List Int}
theorem okRec_of (h : okRec a0 a1 a2 a3 a4 a5 a6 a7 l8 l9 = true) : OkRec a0 a1 a2 a3 a4 a5 a6 a7 l8 l9 := by
  unfold okRec okNums at h
  rw [Bool.and_eq_true, Bool.and_eq_true, Bool.and_eq_true, decide_eq_true_eq, decide_eq_true_eq] at h
  obtain ⟨⟨h1, h2, h3, h4, h5, h6, h7, h8, h9, h10⟩, ⟨g1, g2, g3, g4, g5⟩, k1, k2⟩ := h
  refine ⟨⟨?_, ?_, ?_, ⟨h7, h8⟩, ⟨h9, h10⟩⟩, ⟨g1, g2, g3, ?_, ?_⟩, k1, k2, by omega, by omega, by omega⟩
  · show a0.toNat < _; omega
  · show a1.toNat < _; omega
  · show a6.toNat < _; omega
  · show (u8s l8).length ≤ _; rw [u8s_length]; exact g4
  · show (u8s l9).length ≤ _; rw [u8s_length]; exact g5
theorem OkRec.cells (h : OkRec a0 a1 a2 a3 a4 a5 a6 a7 l8 l9) (A8 A9 : Option Addr) (c8 c9 : Nat) :
    recCells (mkRec a0 a1 a2 a3 a4 a5 a6 a7 l8 l9) ⟨A8, l8.length, c8, A9, l9.length, c9⟩ = #[.int .u64 a0, .int .u64 a1, .string a2, .int .i64 a3, .string a4, .string a5, .int .u64 a6, .int .i64 a7, .slice A8 l8.length c8, .slice A9 l9.length c9] := by
  unfold recCells mkRec
  simp only [h.e0, h.e1, h.e6]
theorem OkRec.at_ (h : OkRec a0 a1 a2 a3 a4 a5 a6 a7 l8 l9) {w : World} {A8 A9 : Option Addr} (c8 c9 : Nat) (hr8 : Kd.C (Kd.int .u8) w A8 l8.length l8) (hr9 : Kd.C (Kd.int .u8) w A9 l9.length l9) :
    RecAt w w.heap.size (mkRec a0 a1 a2 a3 a4 a5 a6 a7 l8 l9) ⟨A8, l8.length, c8, A9, l9.length, c9⟩ := ⟨reads_u8 hr8 h.s8, reads_u8 hr9 h.s9⟩
end
def ashow.f (a0 a1 : Int) (a2 : ByteArray) (a3 : Int) (a4 a5 : ByteArray) (a6 a7 : Int) (l8 l9 : List Int) : Option (List Int) := if okRec a0 a1 a2 a3 a4 a5 a6 a7 l8 l9 = true then some (i8s (mkRec a0 a1 a2 a3 a4 a5 a6 a7 l8 l9).show8) else none
def rshow.f (a0 a1 : Int) (a2 : ByteArray) (a3 : Int) (a4 a5 : ByteArray) (a6 a7 : Int) (l8 l9 : List Int) : Option (List Int) := if okRec a0 a1 a2 a3 a4 a5 a6 a7 l8 l9 = true then some (i8s (mkRec a0 a1 a2 a3 a4 a5 a6 a7 l8 l9).show8) else none
theorem ashow.calls (a0 : Int) (a1 : Int) (a2 : ByteArray) (a3 : Int) (a4 : ByteArray) (a5 : ByteArray) (a6 : Int) (a7 : Int) (A8 : Option Addr) (c8 : Nat) (l8 : List Int) (A9 : Option Addr) (c9 : Nat) (l9 : List Int) (r : List Int) (w : World) (hr8 : Kd.C (Kd.int .u8) w A8 l8.length l8) (hc8 : l8.length ≤ c8) (hr9 : Kd.C (Kd.int .u8) w A9 l9.length l9) (hc9 : l9.length ≤ c9) (h : ashow.f a0 a1 a2 a3 a4 a5 a6 a7 l8 l9 = some r) :
    Calls Try.prog 18 #[.agg #[.int .u64 a0, .int .u64 a1, .string a2, .int .i64 a3, .string a4, .string a5, .int .u64 a6, .int .i64 a7, .slice A8 l8.length c8, .slice A9 l9.length c9]] w fun e w' => ∃ v0_ : Value, e = .returned (v0_) ∧ Kd.R (Kd.int .u8) 5 w' w.heap.size (fun _ => True) v0_ r ∧ Below w.heap.size w w' := by
  unfold ashow.f at h
  by_cases hg : okRec a0 a1 a2 a3 a4 a5 a6 a7 l8 l9 = true
  · rw [if_pos hg] at h
    injection h with h
    subst h
    have ho := okRec_of hg
    have hc := show_any _ _ w (ho.at_ c8 c9 hr8 hr9) ho.ok ho.small
    rw [ho.cells] at hc
    exact hc.mono fun e w' hh => hh.out_
  · rw [if_neg hg] at h; cases h
theorem rshow.calls (a0 : Int) (a1 : Int) (a2 : ByteArray) (a3 : Int) (a4 : ByteArray) (a5 : ByteArray) (a6 : Int) (a7 : Int) (A8 : Option Addr) (c8 : Nat) (l8 : List Int) (A9 : Option Addr) (c9 : Nat) (l9 : List Int) (r : List Int) (w : World) (hr8 : Kd.C (Kd.int .u8) w A8 l8.length l8) (hc8 : l8.length ≤ c8) (hr9 : Kd.C (Kd.int .u8) w A9 l9.length l9) (hc9 : l9.length ≤ c9) (h : rshow.f a0 a1 a2 a3 a4 a5 a6 a7 l8 l9 = some r) :
    Calls Try.prog 19 #[.agg #[.int .u64 a0, .int .u64 a1, .string a2, .int .i64 a3, .string a4, .string a5, .int .u64 a6, .int .i64 a7, .slice A8 l8.length c8, .slice A9 l9.length c9]] w fun e w' => ∃ v0_ : Value, e = .returned (v0_) ∧ Kd.R (Kd.int .u8) 5 w' w.heap.size (fun _ => True) v0_ r ∧ Below w.heap.size w w' := by
  unfold rshow.f at h
  by_cases hg : okRec a0 a1 a2 a3 a4 a5 a6 a7 l8 l9 = true
  · rw [if_pos hg] at h
    injection h with h
    subst h
    have ho := okRec_of hg
    have hc := rshow_any _ _ w (ho.at_ c8 c9 hr8 hr9) ho.ok ho.small
    rw [ho.cells] at hc
    exact hc.mono fun e w' hh => hh.out_
  · rw [if_neg hg] at h; cases h
end Go.Proofs.Ytjnakhgpenafdaa
/- Same of bytes, twice, in the printed words. -/
namespace Go.Proofs.Ytjnakhgpenafdaa
open Go.RowKit Go.Proofs.YtjnakhgpenafdaaW.PrintWords
def okSame (l m : List Int) : Bool := (ok8 l && ok8 m) && (decide (l.length ≤ 140737488355328) && decide (m.length ≤ 140737488355328))
def rsame.f (l m : List Int) : Option Bool := if okSame l m = true then some (decide (l = m)) else none
def dsame.f (l m : List Int) : Option Bool := if okSame l m = true then some (decide (l = m)) else none
theorem same_u8 {l m : List Int} (h : ok8 l = true) (h' : ok8 m = true) : decide (u8s l = u8s m) = decide (l = m) := by
  apply decide_eq_decide.2
  constructor
  · intro e; rw [← i8s_u8s h, e, i8s_u8s h']
  · intro e; rw [e]
theorem okSame_of {l m : List Int} (h : okSame l m = true) : (ok8 l = true ∧ ok8 m = true) ∧ l.length ≤ 140737488355328 ∧ m.length ≤ 140737488355328 := by
  unfold okSame at h
  rw [Bool.and_eq_true, Bool.and_eq_true, Bool.and_eq_true, decide_eq_true_eq, decide_eq_true_eq] at h
  exact h
theorem rsame.calls (A0 : Option Addr) (c0 : Nat) (l0 : List Int) (A1 : Option Addr) (c1 : Nat) (l1 : List Int) (r : Bool) (w : World) (hr0 : Kd.C (Kd.int .u8) w A0 l0.length l0) (_hc0 : l0.length ≤ c0) (hr1 : Kd.C (Kd.int .u8) w A1 l1.length l1) (_hc1 : l1.length ≤ c1) (h : rsame.f l0 l1 = some r) :
    Calls Try.prog 17 #[.slice A0 l0.length c0, .slice A1 l1.length c1] w fun e w' => e = .returned (.bool r) ∧ Drawn0 w w' := by
  unfold rsame.f at h
  by_cases hg : okSame l0 l1 = true
  · rw [if_pos hg] at h
    injection h with h
    subst h
    have ⟨⟨h1, h2⟩, h3, h4⟩ := okSame_of hg
    rw [← same_u8 h1 h2]
    refine (rsame_any A0 A1 l0.length c0 l1.length c1 (u8s l0) (u8s l1) w (reads_u8 hr0 h1) (reads_u8 hr1 h2) h3 h4).mono fun e w' hh => ⟨hh.1, ⟨hh.2⟩⟩
  · rw [if_neg hg] at h; cases h
theorem dsame.calls (A0 : Option Addr) (c0 : Nat) (l0 : List Int) (A1 : Option Addr) (c1 : Nat) (l1 : List Int) (r : Bool) (w : World) (hr0 : Kd.C (Kd.int .u8) w A0 l0.length l0) (_hc0 : l0.length ≤ c0) (hr1 : Kd.C (Kd.int .u8) w A1 l1.length l1) (_hc1 : l1.length ≤ c1) (h : dsame.f l0 l1 = some r) :
    Calls Try.prog 28 #[.slice A0 l0.length c0, .slice A1 l1.length c1] w fun e w' => e = .returned (.bool r) ∧ Drawn0 w w' := by
  unfold dsame.f at h
  by_cases hg : okSame l0 l1 = true
  · rw [if_pos hg] at h
    injection h with h
    subst h
    have ⟨⟨h1, h2⟩, h3, h4⟩ := okSame_of hg
    rw [← same_u8 h1 h2]
    refine (dsame_any A0 A1 l0.length c0 l1.length c1 (u8s l0) (u8s l1) w (reads_u8 hr0 h1) (reads_u8 hr1 h2) h3 h4).mono fun e w' hh => ⟨hh.1, ⟨hh.2⟩⟩
  · rw [if_neg hg] at h; cases h
end Go.Proofs.Ytjnakhgpenafdaa
/- steleref14.Right, in the printed words. -/
namespace Go.Proofs.Ytjnakhgpenafdaa
open Go.RowKit Go.Proofs.YtjnakhgpenafdaaW.PrintWords
set_option linter.unusedVariables false
set_option linter.unusedSimpArgs false
def sumB (n : Nat) : Bool := decide (n = 0) || decide (n = 32)
def prevB (seq : Int) (n : Nat) : Bool := (decide (n = 32) && decide (1 < seq)) || (decide (n = 0) && decide (seq = 1))
def restB (a3 a7 : Int) (n2 n4 n5 : Nat) : Bool := decide (0 ≤ a3 ∧ a3 ≤ 19 ∧ 0 ≤ a7 ∧ a7 ≤ 9999 ∧ n2 ≤ 16 ∧ n4 ≤ 16 ∧ n5 ≤ 48)
def rright.f (a0 a1 : Int) (a2 : ByteArray) (a3 : Int) (a4 a5 : ByteArray) (a6 a7 : Int) (l8 l9 : List Int) : Option Bool := some (restB a3 a7 a2.size a4.size a5.size && (sumB l8.length && prevB a0 l9.length))
set_option maxRecDepth 100000 in
set_option maxHeartbeats 8000000 in
theorem rright.calls (a0 : Int) (a1 : Int) (a2 : ByteArray) (a3 : Int) (a4 : ByteArray) (a5 : ByteArray) (a6 : Int) (a7 : Int) (A8 : Option Addr) (c8 : Nat) (l8 : List Int) (A9 : Option Addr) (c9 : Nat) (l9 : List Int) (r : Bool) (w : World) (hr8 : Kd.C (Kd.int .u8) w A8 l8.length l8) (hc8 : l8.length ≤ c8) (hr9 : Kd.C (Kd.int .u8) w A9 l9.length l9) (hc9 : l9.length ≤ c9) (h : rright.f a0 a1 a2 a3 a4 a5 a6 a7 l8 l9 = some r) :
    Calls Try.prog 12 #[.agg #[.int .u64 a0, .int .u64 a1, .string a2, .int .i64 a3, .string a4, .string a5, .int .u64 a6, .int .i64 a7, .slice A8 l8.length c8, .slice A9 l9.length c9]] w fun e w' => e = .returned (.bool r) ∧ Below w.heap.size w w' := by
  unfold rright.f at h
  injection h with h
  subst h
  clear hr8 hr9 hc8 hc9
  obtain ⟨n8, hn8⟩ : ∃ n, n = l8.length := ⟨_, rfl⟩
  obtain ⟨n9, hn9⟩ : ∃ n, n = l9.length := ⟨_, rfl⟩
  rw [← hn8, ← hn9]
  clear hn8 hn9
  have hu := Try.underlying27
  go_enter Try.func12, Try.ntmps12
  go_upto_region 1 with (first
    | ((with_reducible refine gate_dst (N := 1) rfl ?_); refine box_event (by rfl) (N := 1) (by rfl) (cs := #[.int .u64 a0, .int .u64 a1, .string a2, .int .i64 a3, .string a4, .string a5, .int .u64 a6, .int .i64 a7, .slice A8 n8 c8, .slice A9 n9 c9]) (t := 27) (by first | (go_simp; done) | (go_simp; rfl)) ?_; intro g hg W hbox hb; have HB := Lib.hid hb; have HBX := Lib.hid hbox; clear hb hg hbox))
  have k0 : W.cell? ⟨g, 0, none⟩ = some (.int .u64 a0) := (blk_cell HBX.out 0).trans rfl
  have k2 : W.cell? ⟨g, 2, none⟩ = some (.string a2) := (blk_cell HBX.out 2).trans rfl
  have k3 : W.cell? ⟨g, 3, none⟩ = some (.int .i64 a3) := (blk_cell HBX.out 3).trans rfl
  have k4 : W.cell? ⟨g, 4, none⟩ = some (.string a4) := (blk_cell HBX.out 4).trans rfl
  have k5 : W.cell? ⟨g, 5, none⟩ = some (.string a5) := (blk_cell HBX.out 5).trans rfl
  have k7 : W.cell? ⟨g, 7, none⟩ = some (.int .i64 a7) := (blk_cell HBX.out 7).trans rfl
  have k8 : W.cell? ⟨g, 8, none⟩ = some (.slice A8 n8 c8) := (blk_cell HBX.out 8).trans rfl
  have k9 : W.cell? ⟨g, 9, none⟩ = some (.slice A9 n9 c9) := (blk_cell HBX.out 9).trans rfl
  go_cut [3] (fun s W1 => s = .bool (sumB n8) ∧ W = W1)
  case first =>
    by_cases h0 : n8 = 0
    · have e : sumB n8 = true := by simp [sumB, h0]
      have E := Lib.hid e
      have b1 : ((n8 : Int) == 0) = true := by simp [h0]
      clear h0 e
      go_wp2_with fail
      go_meet
      exact ⟨by rw [E.out], rfl⟩
    · have b1 : ((n8 : Int) == 0) = false := by simp [h0]
      by_cases h1 : n8 = 32
      · have e : sumB n8 = true := by simp [sumB, h1]
        have E := Lib.hid e
        have b2 : ((n8 : Int) == 32) = true := by simp [h1]
        clear h0 e h1
        go_wp2_with fail
        go_meet
        exact ⟨by rw [E.out], rfl⟩
      · have e : sumB n8 = false := by simp [sumB, h0, h1]
        have E := Lib.hid e
        have b2 : ((n8 : Int) == 32) = false := by
          rw [beq_eq_false_iff_ne]
          omega
        clear h0 e h1
        go_wp2_with fail
        go_meet
        exact ⟨by rw [E.out], rfl⟩
  case rest =>
    obtain ⟨rfl, rfl⟩ := hcut
    go_upto_region 2 with fail
    go_cut [4] (fun s W2 => s = .bool (prevB a0 n9) ∧ W = W2)
    case first =>
      by_cases h0 : n9 = 32
      · have b1 : ((n9 : Int) == 32) = true := by simp [h0]
        have b1b : (n9 == 32) = true := by simp [h0]
        have b2 : ((n9 : Int) == 0) = false := by simp [h0]
        have b2b : (n9 == 0) = false := by simp [h0]
        by_cases h1 : 1 < a0
        · have E := Lib.hid (show prevB a0 n9 = true by simp [prevB, h0, h1])
          have da : decide (1 < a0) = true := decide_eq_true (by omega)
          have db : decide (a0 > 1) = true := decide_eq_true (by omega)
          clear h0
          go_wp2_with fail
          go_meet
          exact ⟨by rw [E.out], rfl⟩
        · have E := Lib.hid (show prevB a0 n9 = false by simp [prevB, h0, h1])
          have da : decide (1 < a0) = false := decide_eq_false (by omega)
          have db : decide (a0 > 1) = false := decide_eq_false (by omega)
          clear h0
          go_wp2_with fail
          go_meet
          exact ⟨by rw [E.out], rfl⟩
      · have b1 : ((n9 : Int) == 32) = false := by rw [beq_eq_false_iff_ne]; omega
        have b1b : (n9 == 32) = false := by simp [h0]
        by_cases h2 : n9 = 0
        · have b2 : ((n9 : Int) == 0) = true := by simp [h2]
          have b2b : (n9 == 0) = true := by simp [h2]
          by_cases h1 : a0 = 1
          · have E := Lib.hid (show prevB a0 n9 = true by simp [prevB, h2, h1])
            have d : (a0 == 1) = true := by simp [h1]
            clear h0 h1 h2
            go_wp2_with fail
            go_meet
            exact ⟨by rw [E.out], rfl⟩
          · have E := Lib.hid (show prevB a0 n9 = false by simp [prevB, h2, h1])
            have d : (a0 == 1) = false := by simp [h1]
            clear h0 h1 h2
            go_wp2_with fail
            go_meet
            exact ⟨by rw [E.out], rfl⟩
        · have E := Lib.hid (show prevB a0 n9 = false by simp [prevB, h2, h0])
          have b2 : ((n9 : Int) == 0) = false := by simp [h2]
          have b2b : (n9 == 0) = false := by simp [h2]
          clear h0 h2
          go_wp2_with fail
          go_meet
          exact ⟨by rw [E.out], rfl⟩
    case rest =>
      obtain ⟨rfl, rfl⟩ := hcut
      obtain ⟨sB, hsB⟩ : ∃ b, b = sumB n8 := ⟨_, rfl⟩
      obtain ⟨pB, hpB⟩ : ∃ b, b = prevB a0 n9 := ⟨_, rfl⟩
      rw [← hsB, ← hpB]
      have HS := Lib.hid (And.intro hsB hpB)
      clear hsB hpB k0 k8 k9
      by_cases c0 : 0 ≤ a3
      rotate_left
      · have E := Lib.hid (show restB a3 a7 a2.size a4.size a5.size = false by unfold restB; rw [decide_eq_false_iff_not]; omega)
        have e0a : decide (0 ≤ a3) = false := decide_eq_false (by omega)
        have e0b : decide (a3 ≥ 0) = false := decide_eq_false (by omega)
        clear c0
        go_wp2_with fail
        go_ret
        exact ⟨by rw [E.out, ← HS.out.1, ← HS.out.2]; rfl, HB.out⟩
      have e0a : decide (0 ≤ a3) = true := decide_eq_true (by omega)
      have e0b : decide (a3 ≥ 0) = true := decide_eq_true (by omega)
      by_cases c1 : a3 ≤ 19
      rotate_left
      · have E := Lib.hid (show restB a3 a7 a2.size a4.size a5.size = false by unfold restB; rw [decide_eq_false_iff_not]; omega)
        have e1a : decide (a3 ≤ 19) = false := decide_eq_false (by omega)
        clear c1
        go_wp2_with fail
        go_ret
        exact ⟨by rw [E.out, ← HS.out.1, ← HS.out.2]; rfl, HB.out⟩
      have e1a : decide (a3 ≤ 19) = true := decide_eq_true (by omega)
      by_cases c2 : 0 ≤ a7
      rotate_left
      · have E := Lib.hid (show restB a3 a7 a2.size a4.size a5.size = false by unfold restB; rw [decide_eq_false_iff_not]; omega)
        have e2a : decide (0 ≤ a7) = false := decide_eq_false (by omega)
        have e2b : decide (a7 ≥ 0) = false := decide_eq_false (by omega)
        clear c2
        go_wp2_with fail
        go_ret
        exact ⟨by rw [E.out, ← HS.out.1, ← HS.out.2]; rfl, HB.out⟩
      have e2a : decide (0 ≤ a7) = true := decide_eq_true (by omega)
      have e2b : decide (a7 ≥ 0) = true := decide_eq_true (by omega)
      by_cases c3 : a7 ≤ 9999
      rotate_left
      · have E := Lib.hid (show restB a3 a7 a2.size a4.size a5.size = false by unfold restB; rw [decide_eq_false_iff_not]; omega)
        have e3a : decide (a7 ≤ 9999) = false := decide_eq_false (by omega)
        clear c3
        go_wp2_with fail
        go_ret
        exact ⟨by rw [E.out, ← HS.out.1, ← HS.out.2]; rfl, HB.out⟩
      have e3a : decide (a7 ≤ 9999) = true := decide_eq_true (by omega)
      by_cases c4 : a2.size ≤ 16
      rotate_left
      · have E := Lib.hid (show restB a3 a7 a2.size a4.size a5.size = false by unfold restB; rw [decide_eq_false_iff_not]; omega)
        have e4a : decide ((a2.size : Int) ≤ 16) = false := decide_eq_false (by omega)
        have e4b : decide (a2.size ≤ 16) = false := decide_eq_false (by omega)
        clear c4
        go_wp2_with fail
        go_ret
        exact ⟨by rw [E.out, ← HS.out.1, ← HS.out.2]; rfl, HB.out⟩
      have e4a : decide ((a2.size : Int) ≤ 16) = true := decide_eq_true (by omega)
      have e4b : decide (a2.size ≤ 16) = true := decide_eq_true (by omega)
      by_cases c5 : a4.size ≤ 16
      rotate_left
      · have E := Lib.hid (show restB a3 a7 a2.size a4.size a5.size = false by unfold restB; rw [decide_eq_false_iff_not]; omega)
        have e5a : decide ((a4.size : Int) ≤ 16) = false := decide_eq_false (by omega)
        have e5b : decide (a4.size ≤ 16) = false := decide_eq_false (by omega)
        clear c5
        go_wp2_with fail
        go_ret
        exact ⟨by rw [E.out, ← HS.out.1, ← HS.out.2]; rfl, HB.out⟩
      have e5a : decide ((a4.size : Int) ≤ 16) = true := decide_eq_true (by omega)
      have e5b : decide (a4.size ≤ 16) = true := decide_eq_true (by omega)
      by_cases c6 : a5.size ≤ 48
      rotate_left
      · have E := Lib.hid (show restB a3 a7 a2.size a4.size a5.size = false by unfold restB; rw [decide_eq_false_iff_not]; omega)
        have e6a : decide ((a5.size : Int) ≤ 48) = false := decide_eq_false (by omega)
        have e6b : decide (a5.size ≤ 48) = false := decide_eq_false (by omega)
        clear c6
        go_wp2_with fail
        go_ret
        exact ⟨by rw [E.out, ← HS.out.1, ← HS.out.2]; rfl, HB.out⟩
      have e6a : decide ((a5.size : Int) ≤ 48) = true := decide_eq_true (by omega)
      have e6b : decide (a5.size ≤ 48) = true := decide_eq_true (by omega)
      have E := Lib.hid (show restB a3 a7 a2.size a4.size a5.size = true by unfold restB; rw [decide_eq_true_eq]; omega)
      clear c0 c1 c2 c3 c4 c5 c6
      cases sB <;> cases pB
      all_goals
        go_wp2_with fail
        go_ret
        exact ⟨by rw [E.out, ← HS.out.1, ← HS.out.2]; rfl, HB.out⟩
end Go.Proofs.Ytjnakhgpenafdaa
