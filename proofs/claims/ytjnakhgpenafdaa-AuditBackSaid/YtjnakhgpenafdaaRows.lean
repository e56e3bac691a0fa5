/-
  No cell of these rows narrows 'for every input' (looked for: loops, veiled, ifaces, maps, wideKeys, modest, calm, conditions, laid).
  DERIVED. THE GIVEN ROWS OF THIS SEAT. 6 by the template 'for every input the law returns true; each argument reads behind the call as it read before'; 0 by the template 'total and deterministic' (their statements: YtjnakhgpenafdaaTotals.lean).
  GIVEN WITH THE SEED: the statements are not yours to turn. If you find one false, say at which input.
  Laid BY PROGRAM, IN A SANDBOX (cutbox-rows.mjs): the forced cells as the released guide's own fill.sh prints them over the translation 646e51414ec68a57… (all of the seat's roots in one cut). By AI agents, Wed Nov 11 2026. No macro, syntax, notation, axiom, sorry.
-/
import Derived.Test.YtjnakhgpenafdaaChecked
import GoSem.Claim
import GoSem.ClaimJoined
import GoSem.ClaimMapViews
import Derived.JoinedTies
import Derived.KernelRfl
namespace Go.Proofs.Ytjnakhgpenafdaa
/- THE CELL 'sum', in the pinned program and in every row, IS THE sha256 OF THE DUMP (.gsa) THAT YtjnakhgpenafdaaProg.lean LOADS. Nothing in Lean hashes anything: it is a label: what it is worth is what the hold of that sum in a sandbox is worth. -/
noncomputable def Try.pinned : Pinned := { name := "ytjnakhgpenafdaa", sum := "646e51414ec68a575dea810bf7d84d66bb47c86ae353407f1f6b75103d5bf194", checked := Try.checked }
namespace Rows
def none {H : Type} : Left H := { results := [], args := [] }

/-- 'stelelaw14.AuditEdited': WHATEVER THE INPUT: true; the input reads as it did. -/
def auditEditedSpec : ChangeSpec := { name := "auditEdited", fn := fun _ => fun
  | [d1, d2, d3, d4] => { results := [.lit (.bool true)], args := [d1, d2, d3, d4] }
  | _ => none }
def auditEditedRow : OpenClaim := { program := "ytjnakhgpenafdaa", sum := "646e51414ec68a575dea810bf7d84d66bb47c86ae353407f1f6b75103d5bf194", func := "stele/stelelaw14.AuditEdited", spec := "auditEdited", unfollowed := true, recurses := true, apart := false }
def AuditEditedSaid : Prop := auditEditedRow.holds Try.pinned (OpenSpec.ofChange auditEditedSpec)

/-- ITS FALSE NEIGHBOUR: 'it returns false'. Refute it at one input. -/
def auditEditedWrong : ChangeSpec := { name := "auditEdited", fn := fun _ => fun
  | [d1, d2, d3, d4] => { results := [.lit (.bool false)], args := [d1, d2, d3, d4] }
  | _ => none }
def AuditEditedWrongFalsely : Prop := auditEditedRow.holds Try.pinned (OpenSpec.ofChange auditEditedWrong)

/-- 'stelelaw14.AuditShows': WHATEVER THE INPUT: true; the input reads as it did. -/
def auditShowsSpec : ChangeSpec := { name := "auditShows", fn := fun _ => fun
  | [d1, d2, d3] => { results := [.lit (.bool true)], args := [d1, d2, d3] }
  | _ => none }
def auditShowsRow : OpenClaim := { program := "ytjnakhgpenafdaa", sum := "646e51414ec68a575dea810bf7d84d66bb47c86ae353407f1f6b75103d5bf194", func := "stele/stelelaw14.AuditShows", spec := "auditShows", unfollowed := true, recurses := true, apart := false }
def AuditShowsSaid : Prop := auditShowsRow.holds Try.pinned (OpenSpec.ofChange auditShowsSpec)

/-- ITS FALSE NEIGHBOUR: 'it returns false'. Refute it at one input. -/
def auditShowsWrong : ChangeSpec := { name := "auditShows", fn := fun _ => fun
  | [d1, d2, d3] => { results := [.lit (.bool false)], args := [d1, d2, d3] }
  | _ => none }
def AuditShowsWrongFalsely : Prop := auditShowsRow.holds Try.pinned (OpenSpec.ofChange auditShowsWrong)

/-- 'stelelaw14.AuditCollides': WHATEVER THE INPUT: true; the input reads as it did. -/
def auditCollidesSpec : ChangeSpec := { name := "auditCollides", fn := fun _ => fun
  | [d1, d2] => { results := [.lit (.bool true)], args := [d1, d2] }
  | _ => none }
def auditCollidesRow : OpenClaim := { program := "ytjnakhgpenafdaa", sum := "646e51414ec68a575dea810bf7d84d66bb47c86ae353407f1f6b75103d5bf194", func := "stele/stelelaw14.AuditCollides", spec := "auditCollides", unfollowed := true, recurses := true, apart := false }
def AuditCollidesSaid : Prop := auditCollidesRow.holds Try.pinned (OpenSpec.ofChange auditCollidesSpec)

/-- ITS FALSE NEIGHBOUR: 'it returns false'. Refute it at one input. -/
def auditCollidesWrong : ChangeSpec := { name := "auditCollides", fn := fun _ => fun
  | [d1, d2] => { results := [.lit (.bool false)], args := [d1, d2] }
  | _ => none }
def AuditCollidesWrongFalsely : Prop := auditCollidesRow.holds Try.pinned (OpenSpec.ofChange auditCollidesWrong)

/-- 'stelelaw14.AuditForged': WHATEVER THE INPUT: true; the input reads as it did. -/
def auditForgedSpec : ChangeSpec := { name := "auditForged", fn := fun _ => fun
  | [d1, d2, d3] => { results := [.lit (.bool true)], args := [d1, d2, d3] }
  | _ => none }
def auditForgedRow : OpenClaim := { program := "ytjnakhgpenafdaa", sum := "646e51414ec68a575dea810bf7d84d66bb47c86ae353407f1f6b75103d5bf194", func := "stele/stelelaw14.AuditForged", spec := "auditForged", unfollowed := true, recurses := true, apart := false }
def AuditForgedSaid : Prop := auditForgedRow.holds Try.pinned (OpenSpec.ofChange auditForgedSpec)

/-- ITS FALSE NEIGHBOUR: 'it returns false'. Refute it at one input. -/
def auditForgedWrong : ChangeSpec := { name := "auditForged", fn := fun _ => fun
  | [d1, d2, d3] => { results := [.lit (.bool false)], args := [d1, d2, d3] }
  | _ => none }
def AuditForgedWrongFalsely : Prop := auditForgedRow.holds Try.pinned (OpenSpec.ofChange auditForgedWrong)

/-- 'stelelaw14.AuditReads': WHATEVER THE INPUT: true; the input reads as it did. -/
def auditReadsSpec : ChangeSpec := { name := "auditReads", fn := fun _ => fun
  | [d] => { results := [.lit (.bool true)], args := [d] }
  | _ => none }
def auditReadsRow : OpenClaim := { program := "ytjnakhgpenafdaa", sum := "646e51414ec68a575dea810bf7d84d66bb47c86ae353407f1f6b75103d5bf194", func := "stele/stelelaw14.AuditReads", spec := "auditReads", inPlace := ["sync/atomic.LoadUint32", "sync/atomic.StoreUint32"], unfollowed := true, recurses := true, apart := false }
def AuditReadsSaid : Prop := auditReadsRow.holds Try.pinned (OpenSpec.ofChange auditReadsSpec)

/-- ITS FALSE NEIGHBOUR: 'it returns false'. Refute it at one input. -/
def auditReadsWrong : ChangeSpec := { name := "auditReads", fn := fun _ => fun
  | [d] => { results := [.lit (.bool false)], args := [d] }
  | _ => none }
def AuditReadsWrongFalsely : Prop := auditReadsRow.holds Try.pinned (OpenSpec.ofChange auditReadsWrong)

/-- 'stelelaw14.AuditBack': WHATEVER THE INPUT: true; the input reads as it did. -/
def auditBackSpec : ChangeSpec := { name := "auditBack", fn := fun _ => fun
  | [d1, d2] => { results := [.lit (.bool true)], args := [d1, d2] }
  | _ => none }
def auditBackRow : OpenClaim := { program := "ytjnakhgpenafdaa", sum := "646e51414ec68a575dea810bf7d84d66bb47c86ae353407f1f6b75103d5bf194", func := "stele/stelelaw14.AuditBack", spec := "auditBack", inPlace := ["sync/atomic.LoadUint32", "sync/atomic.StoreUint32"], unfollowed := true, recurses := true, apart := false }
def AuditBackSaid : Prop := auditBackRow.holds Try.pinned (OpenSpec.ofChange auditBackSpec)

/-- ITS FALSE NEIGHBOUR: 'it returns false'. Refute it at one input. -/
def auditBackWrong : ChangeSpec := { name := "auditBack", fn := fun _ => fun
  | [d1, d2] => { results := [.lit (.bool false)], args := [d1, d2] }
  | _ => none }
def AuditBackWrongFalsely : Prop := auditBackRow.holds Try.pinned (OpenSpec.ofChange auditBackWrong)

/- THE SECOND FORM. 'bulk': how many values and letters a reading holds, each counted each time it is reached (what is shared counts as often as it is met; a slice's spare places count too). A statement '..UptoSaid' is the law's where the arguments, and the package variables that the reading takes, are together of bulk at most 1048576: NARROWER than '..Said'. Prove '..Said' where nothing that the law and all that it calls make is longer than what came in: it says more and counts as full. Else prove '..UptoSaid'. A law counts once. -/
mutual
def uptoBulk {H : Type} : DataW H → Nat
  | .lit (.string bytes) => bytes.length + 1
  | .lit _ => 1
  | .nil => 1
  | .ptr d => uptoBulk d + 1
  | .slice elems spare => uptoBulkAll elems + uptoBulkAll spare + 1
  | .agg parts => uptoBulkAll parts + 1
  | .iface _ d => uptoBulk d + 1
  | .map entries => uptoBulkEntries entries + 1
  | .held _ => 1
def uptoBulkAll {H : Type} : List (DataW H) → Nat
  | [] => 0
  | d :: r => uptoBulk d + uptoBulkAll r
def uptoBulkEntries {H : Type} : List (Lit × DataW H) → Nat
  | [] => 0
  | x :: r => uptoBulkEntry x + uptoBulkEntries r
def uptoBulkEntry {H : Type} : Lit × DataW H → Nat
  | (.string bytes, d) => bytes.length + uptoBulk d + 1
  | (_, d) => uptoBulk d + 1
 end
def uptoSmall : (H : Type) → List (DataW H) → Bool := fun _ ds => decide (uptoBulkAll ds ≤ 1048576)
def OpenSpec.upto (s : _root_.Go.ChangeSpec) : _root_.Go.OpenSpec := { _root_.Go.OpenSpec.ofChange s with cond := some uptoSmall }

/-- 'stelelaw14.AuditEdited', WHERE WHAT IT READS IS OF BULK AT MOST 1048576: true; the input reads as it did. -/
def auditEditedUptoRow : OpenClaim := { program := "ytjnakhgpenafdaa", sum := "646e51414ec68a575dea810bf7d84d66bb47c86ae353407f1f6b75103d5bf194", func := "stele/stelelaw14.AuditEdited", spec := "auditEdited", unfollowed := true, recurses := true, apart := false, narrowed := true }
def AuditEditedUptoSaid : Prop := auditEditedUptoRow.holds Try.pinned (OpenSpec.upto auditEditedSpec)

/-- 'stelelaw14.AuditShows', WHERE WHAT IT READS IS OF BULK AT MOST 1048576: true; the input reads as it did. -/
def auditShowsUptoRow : OpenClaim := { program := "ytjnakhgpenafdaa", sum := "646e51414ec68a575dea810bf7d84d66bb47c86ae353407f1f6b75103d5bf194", func := "stele/stelelaw14.AuditShows", spec := "auditShows", unfollowed := true, recurses := true, apart := false, narrowed := true }
def AuditShowsUptoSaid : Prop := auditShowsUptoRow.holds Try.pinned (OpenSpec.upto auditShowsSpec)

/-- 'stelelaw14.AuditCollides', WHERE WHAT IT READS IS OF BULK AT MOST 1048576: true; the input reads as it did. -/
def auditCollidesUptoRow : OpenClaim := { program := "ytjnakhgpenafdaa", sum := "646e51414ec68a575dea810bf7d84d66bb47c86ae353407f1f6b75103d5bf194", func := "stele/stelelaw14.AuditCollides", spec := "auditCollides", unfollowed := true, recurses := true, apart := false, narrowed := true }
def AuditCollidesUptoSaid : Prop := auditCollidesUptoRow.holds Try.pinned (OpenSpec.upto auditCollidesSpec)

/-- 'stelelaw14.AuditForged', WHERE WHAT IT READS IS OF BULK AT MOST 1048576: true; the input reads as it did. -/
def auditForgedUptoRow : OpenClaim := { program := "ytjnakhgpenafdaa", sum := "646e51414ec68a575dea810bf7d84d66bb47c86ae353407f1f6b75103d5bf194", func := "stele/stelelaw14.AuditForged", spec := "auditForged", unfollowed := true, recurses := true, apart := false, narrowed := true }
def AuditForgedUptoSaid : Prop := auditForgedUptoRow.holds Try.pinned (OpenSpec.upto auditForgedSpec)

/-- 'stelelaw14.AuditReads', WHERE WHAT IT READS IS OF BULK AT MOST 1048576: true; the input reads as it did. -/
def auditReadsUptoRow : OpenClaim := { program := "ytjnakhgpenafdaa", sum := "646e51414ec68a575dea810bf7d84d66bb47c86ae353407f1f6b75103d5bf194", func := "stele/stelelaw14.AuditReads", spec := "auditReads", inPlace := ["sync/atomic.LoadUint32", "sync/atomic.StoreUint32"], unfollowed := true, recurses := true, apart := false, narrowed := true }
def AuditReadsUptoSaid : Prop := auditReadsUptoRow.holds Try.pinned (OpenSpec.upto auditReadsSpec)

/-- 'stelelaw14.AuditBack', WHERE WHAT IT READS IS OF BULK AT MOST 1048576: true; the input reads as it did. -/
def auditBackUptoRow : OpenClaim := { program := "ytjnakhgpenafdaa", sum := "646e51414ec68a575dea810bf7d84d66bb47c86ae353407f1f6b75103d5bf194", func := "stele/stelelaw14.AuditBack", spec := "auditBack", inPlace := ["sync/atomic.LoadUint32", "sync/atomic.StoreUint32"], unfollowed := true, recurses := true, apart := false, narrowed := true }
def AuditBackUptoSaid : Prop := auditBackUptoRow.holds Try.pinned (OpenSpec.upto auditBackSpec)

end Rows
end Go.Proofs.Ytjnakhgpenafdaa
