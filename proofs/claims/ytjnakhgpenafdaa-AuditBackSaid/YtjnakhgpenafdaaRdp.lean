/- What the two Reads read of bytes, plainly. -/
import Derived.Test.YtjnakhgpenafdaaRd1
import Derived.Test.YtjnakhgpenafdaaGT
namespace Go.Proofs.Ytjnakhgpenafdaa
open Go.RowKit Go.Proofs.YtjnakhgpenafdaaW.PrintWords
set_option linter.unusedVariables false
/-- what is read of bytes: ten fields, what is left, is the reader bad -/
structure Fs where
  s : Nat
  c : Nat
  who : List UInt8
  k : Nat
  bu : List UInt8
  ke : List UInt8
  v : Nat
  e : Nat
  sum : List UInt8
  prev : List UInt8
  rest : List UInt8
  bad : Bool
def fieldsOf (B : List UInt8) : Fs :=
  let o1 := uC B false
  let o2 := uC o1.2.1 o1.2.2
  let o3 := sC 115 o2.2.1 o2.2.2
  let o4 := uC o3.2.1 o3.2.2
  let o5 := sC 115 o4.2.1 o4.2.2
  let o6 := sC 115 o5.2.1 o5.2.2
  let o7 := uC o6.2.1 o6.2.2
  let o8 := uC o7.2.1 o7.2.2
  let o9 := sC 98 o8.2.1 o8.2.2
  let o10 := sC 98 o9.2.1 o9.2.2
  ⟨o1.1, o2.1, o3.1, o4.1, o5.1, o6.1, o7.1, o8.1, o9.1, o10.1, o10.2.1, o10.2.2⟩
abbrev AR := Int × Int × ByteArray × Int × ByteArray × ByteArray × Int × Int × List Int × List Int × Int
def zeroR : AR := (0, 0, ⟨#[]⟩, 0, ⟨#[]⟩, ⟨#[]⟩, 0, 0, [], [], 4)
def rightFs (f : Fs) : Bool := restB f.k f.e f.who.length f.bu.length f.ke.length && (sumB f.sum.length && prevB f.s f.prev.length)
def goodFs (f : Fs) : Bool := decide (dC f.rest f.bad = 0) && rightFs f
def recOf (f : Fs) : AR := if goodFs f = true then ((f.s : Int), (f.c : Int), ⟨f.who.toArray⟩, (f.k : Int), ⟨f.bu.toArray⟩, ⟨f.ke.toArray⟩, (f.v : Int), (f.e : Int), i8s f.sum, i8s f.prev, 0) else zeroR
def okRead (l : List Int) : Bool := ok8 l && decide (l.length ≤ 100000000)
def readsAs (l : List Int) : Option AR := if okRead l = true then some (recOf (fieldsOf (u8s l))) else none
def aread.f (l : List Int) : Option AR := readsAs l
def rread.f (l : List Int) : Option AR := readsAs l
/-- what a Read hands back -/
def RetRec (w : World) (o : AR) (e : Ending) (w' : World) : Prop :=
  ∃ v8 v9 : Value, e = .returned (.tuple #[.agg #[.int .u64 o.1, .int .u64 o.2.1, .string o.2.2.1, .int .i64 o.2.2.2.1, .string o.2.2.2.2.1, .string o.2.2.2.2.2.1, .int .u64 o.2.2.2.2.2.2.1, .int .i64 o.2.2.2.2.2.2.2.1, v8, v9], .int .i64 o.2.2.2.2.2.2.2.2.2.2])
    ∧ Kd.R (Kd.int .u8) 5 w' w.heap.size (fun k_ => some k_ ≠ v9.ownBlock) v8 o.2.2.2.2.2.2.2.2.1 ∧ Kd.R (Kd.int .u8) 5 w' w.heap.size (fun k_ => some k_ ≠ v8.ownBlock) v9 o.2.2.2.2.2.2.2.2.2.1 ∧ Below w.heap.size w w'
theorem uC_lt (B : List UInt8) (bad : Bool) : (uC B bad).1 < 18446744073709551616 := by
  unfold uC
  split
  · have h1 := Cn.num_lt ((B.drop 1).take 8)
    have h2 : 256 ^ ((B.drop 1).take 8).length ≤ 256 ^ 8 := Nat.pow_le_pow_right (by omega) (by rw [List.length_take]; omega)
    have h3 : (256 : Nat) ^ 8 = 18446744073709551616 := by decide
    simp only
    omega
  · simp
theorem sC_le (s : UInt8) (B : List UInt8) (bad : Bool) : (sC s B bad).1.length ≤ B.length := by
  unfold sC
  split
  · split
    · simp only [List.length_take, List.length_drop]; omega
    · simp
  · simp
theorem sC_rest (s : UInt8) (B : List UInt8) (bad : Bool) : (sC s B bad).2.1.length ≤ B.length := by
  unfold sC
  split
  · split
    · simp only [List.length_drop]; omega
    · simp
  · simp
theorem uC_rest (B : List UInt8) (bad : Bool) : (uC B bad).2.1.length ≤ B.length := by
  unfold uC
  split
  · simp only [List.length_drop]; omega
  · simp
end Go.Proofs.Ytjnakhgpenafdaa
