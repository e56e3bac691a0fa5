/- Arguments opened by their kinds: what reads as data is a value of the kind, and its parts are of their sizes. -/
import Derived.Test.YtjnakhgpenafdaaWFoot
import Derived.Test.YtjnakhgpenafdaaWMore
import Derived.Deep.Slices
import Derived.Deep.Fields
import Derived.SizedLaws
import Derived.ChangeArms
import Derived.OpenShut
import Derived.ShutString
import Derived.ChangeOld
import Derived.KernelRfl
namespace Go.Proofs.Ytjnakhgpenafdaa.Op
open Go.RowKit Go.WideShapes Go.ChangeShapes Go.Proofs.YtjnakhgpenafdaaW.PrintWords

structure Opens {α : Type} (P : Program) (t : TypeId) (d : Kd α) (wf : α → Prop) : Prop where
  sz : P.cellsOf t = d.sz
  go : ∀ {H : Type} (enc : TypeId × Value → H) (w : World) (base : Nat) (spare : Nat → Bool) (held : Bool) (fuel : Nat) (cs : List Value) (y : DataW H × List MemPlace),
    DataW.trod enc P w base spare held fuel t cs = some y → (∀ n ∈ y.1.weights P t, n ≤ reachBytes) → ∃ x, d.K w x cs ∧ wf x

section
variable {P : Program} {t e : TypeId}
theorem Opens.int {k : IntKind} (ht : P.underlying t = some (.int k)) (hc : P.cellsOf t = 1) : Opens P t (Kd.int k) (fun x => (Lit.int k x).wf = true) :=
  ⟨hc, fun enc w base spare held fuel cs y h _ => by
    obtain ⟨n, rfl, rfl, hw⟩ := DataW.trod_int ht h
    exact ⟨n, rfl, hw⟩⟩
theorem Opens.bool (ht : P.underlying t = some .bool) (hc : P.cellsOf t = 1) : Opens P t Kd.bool (fun _ => True) :=
  ⟨hc, fun enc w base spare held fuel cs y h _ => by
    obtain ⟨b, rfl, rfl⟩ := DataW.trod_bool ht h
    exact ⟨b, rfl, trivial⟩⟩
theorem Opens.string (ht : P.underlying t = some .string) (hc : P.cellsOf t = 1) : Opens P t Kd.string (fun s => s.size ≤ 140737488351232) :=
  ⟨hc, fun enc w base spare held fuel cs y h hw => by
    obtain ⟨s, rfl, rfl, _⟩ := DataW.trod_string ht h
    have h1 := hw s.data.toList.length (by simp [DataW.weights])
    rw [Array.length_toList] at h1
    exact ⟨s, rfl, h1⟩⟩
theorem weightsAll_mem {H : Type} {ds : List (DataW H)} {d : DataW H} (hd : d ∈ ds) : ∀ n ∈ d.weights P e, n ∈ DataW.weightsAll P e ds := by
  induction ds with
  | nil => cases hd
  | cons x r ih =>
    intro n hn
    rw [DataW.weightsAll, List.mem_append]
    rcases List.mem_cons.1 hd with rfl | hd
    · exact .inl hn
    · exact .inr (ih hd n hn)
theorem listOf {α : Type} {Q : Nat → α → Prop} : ∀ (n : Nat), (∀ i, i < n → ∃ x, Q i x) → ∃ xs : List α, xs.length = n ∧ ∀ i x, xs[i]? = some x → Q i x
  | 0, _ => ⟨[], rfl, fun i x h => by simp at h⟩
  | n + 1, h => by
    obtain ⟨xs, hl, hq⟩ := listOf n (fun i hi => h i (by omega))
    obtain ⟨y, hy⟩ := h n (by omega)
    refine ⟨xs ++ [y], by simp [hl], fun i x hx => ?_⟩
    rcases Nat.lt_or_ge i n with hi | hi
    · rw [List.getElem?_append_left (by omega)] at hx
      exact hq i x hx
    · rw [List.getElem?_append_right (by omega)] at hx
      have hi' : i = n := by
        have := (List.getElem?_eq_some_iff.1 hx).1
        simp at this
        omega
      subst hi'
      rw [hl, Nat.sub_self] at hx
      simp at hx
      subst hx
      exact hy
theorem Opens.slice {α : Type} {d : Kd α} {wf : α → Prop} {B : Nat} (h : Opens P e d wf) (ht : P.underlying t = some (.slice e)) (hc : P.cellsOf t = 1) (hB : P.bytesOf e = B) :
    Opens P t (Kd.slice e d) (fun xs => xs.length * B ≤ 140737488351232 ∧ ∀ x ∈ xs, wf x) :=
  ⟨hc, fun {H} enc w base spare held fuel cs y hy hw => by
    rcases Go.Deep.open_slice ht hy with ⟨rfl, rfl⟩ | ⟨a, len, cap, m, n, D, Pl, rfl, hb, hl, hm, hmm, rfl, hi⟩
    · exact ⟨[], ⟨none, 0, rfl, Nat.le_refl _, Kd.C_nil d w⟩, by simp, fun x hx => by cases hx⟩
    · have hlm : len ≤ m := by rw [hmm]; split <;> omega
      simp only [DataW.weights, ht] at hw
      have hQ : ∀ i, i < len → ∃ x, (∃ cs', w.cells? base (a.add (i * P.cellsOf e)) (P.cellsOf e) = some cs' ∧ d.K w x cs') ∧ wf x := by
        intro i hil
        obtain ⟨cs', hcs, htr⟩ := hi i (by omega)
        obtain ⟨x, hx, hwf⟩ := h.go enc w base spare held n cs' _ htr (fun k hk => hw k (List.mem_cons_of_mem _ (List.mem_append_left _ (weightsAll_mem (List.mem_map.2 ⟨i, List.mem_range.2 hil, rfl⟩) k hk))))
        exact ⟨x, ⟨cs', hcs, hx⟩, hwf⟩
      obtain ⟨xs, hxl, hxs⟩ := listOf len hQ
      have hsz := hw ((((List.range len).map D).length + ((List.range (m - len)).map fun j => D (len + j)).length) * P.bytesOf e) List.mem_cons_self
      refine ⟨xs, ⟨some a, cap, by rw [hxl], by omega, ⟨rfl, by unfold maxLen at hm; omega, fun _ => ⟨a, rfl, fun j p hj => ?_⟩⟩⟩, ?_, fun x hx => ?_⟩
      · obtain ⟨⟨cs', hcs, hK⟩, _⟩ := hxs j p hj
        obtain ⟨_, hcl, hat⟩ := World.cells?_some hcs
        refine ⟨cs', hcl.trans h.sz, hK, fun i u hu => ?_⟩
        have hil : i < P.cellsOf e := by
          have := (List.getElem?_eq_some_iff.1 hu).1
          omega
        have := hat i hil
        rw [Go.Deep.add_add, hu, h.sz] at this
        exact this
      · rw [List.length_map, List.length_range, List.length_map, List.length_range, hB] at hsz
        refine Nat.le_trans (Nat.mul_le_mul_right _ ?_) hsz
        omega
      · obtain ⟨i, hi', rfl⟩ := List.getElem_of_mem hx
        exact (hxs i _ (List.getElem?_eq_getElem hi')).2⟩

/-- a struct's fields, one behind the other -/
def TrodL {H : Type} (enc : TypeId × Value → H) (P : Program) (w : World) (base : Nat) (spare : Nat → Bool) (held : Bool) (fuel : Nat) : List TypeId → List Value → List (DataW H × List MemPlace) → Prop
  | [], _, [] => True
  | t :: ts, cs, y :: ys => DataW.trod enc P w base spare held fuel t (cs.take (P.cellsOf t)) = some y ∧ TrodL enc P w base spare held fuel ts (cs.drop (P.cellsOf t)) ys
  | _, _, _ => False
def offsOk (P : Program) : List Field → Nat → Bool
  | [], _ => true
  | f :: fs, o => f.offset == o && offsOk P fs (o + P.cellsOf f.type)
theorem trodL_of {H : Type} {enc : TypeId × Value → H} {w : World} {base : Nat} {spare : Nat → Bool} {held : Bool} {fuel : Nat} {cs : List Value} :
    ∀ (fs : List Field) (o : Nat) (xs : List (DataW H × List MemPlace)), offsOk P fs o = true → xs.length = fs.length →
      (∀ (i : Nat) (f : Field), fs[i]? = some f → DataW.trod enc P w base spare held fuel f.type ((cs.drop f.offset).take (P.cellsOf f.type)) = xs[i]?) → TrodL enc P w base spare held fuel (fs.map (fun f => f.type)) (cs.drop o) xs
  | [], o, [], _, _, _ => trivial
  | [], o, x :: xs, _, hl, _ => by simp at hl
  | f :: fs, o, [], _, hl, _ => by simp at hl
  | f :: fs, o, x :: xs, ho, hl, h => by
    simp only [offsOk, Bool.and_eq_true, beq_iff_eq] at ho
    obtain ⟨hf, ho⟩ := ho
    refine ⟨?_, ?_⟩
    · have := h 0 f rfl
      rw [hf] at this
      exact this
    · rw [List.drop_drop]
      exact trodL_of fs _ xs ho (by simpa using hl) (fun i f' hi => h (i + 1) f' hi)
structure OpensL {α : Type} (P : Program) (ts : List TypeId) (d : Kd α) (wf : α → Prop) : Prop where
  go : ∀ {H : Type} (enc : TypeId × Value → H) (w : World) (base : Nat) (spare : Nat → Bool) (held : Bool) (fuel : Nat) (cs : List Value) (ys : List (DataW H × List MemPlace)), cs.length = d.sz →
    TrodL enc P w base spare held fuel ts cs ys → (∀ n ∈ DataW.weightsEach P ts (ys.map (·.1)), n ≤ reachBytes) → ∃ x, d.K w x cs ∧ wf x
theorem OpensL.one {α : Type} {d : Kd α} {wf : α → Prop} (h : Opens P t d wf) : OpensL P [t] d wf :=
  ⟨fun {H} enc w base spare held fuel cs ys hl ht hw => by
    match ys, ht with
    | [y], ht =>
      obtain ⟨h1, _⟩ := ht
      rw [List.take_of_length_le (by rw [h.sz]; omega)] at h1
      exact h.go enc w base spare held fuel cs y h1 (fun n hn => hw n (by simp only [List.map_cons, List.map_nil, DataW.weightsEach, List.append_nil]; exact hn))⟩
theorem OpensL.cons {α β : Type} {a : Kd α} {b : Kd β} {wf : α → Prop} {wf' : β → Prop} {ts : List TypeId} (h : Opens P t a wf) (h' : OpensL P ts b wf') : OpensL P (t :: ts) (Kd.pair a b) (fun x => wf x.1 ∧ wf' x.2) :=
  ⟨fun {H} enc w base spare held fuel cs ys hl ht hw => by
    match ys, ht with
    | y :: ys, ht =>
      obtain ⟨h1, h2⟩ := ht
      have hl' : cs.length = a.sz + b.sz := hl
      simp only [List.map_cons, DataW.weightsEach] at hw
      obtain ⟨x, hx, hwf⟩ := h.go enc w base spare held fuel _ y h1 (fun n hn => hw n (List.mem_append_left _ hn))
      obtain ⟨z, hz, hwf'⟩ := h'.go enc w base spare held fuel _ ys (by rw [List.length_drop, h.sz]; omega) h2 (fun n hn => hw n (List.mem_append_right _ hn))
      exact ⟨(x, z), ⟨_, _, (List.take_append_drop (P.cellsOf t) cs).symm, hx, hz⟩, hwf, hwf'⟩⟩
theorem Opens.struct {α β : Type} {d : Kd β} {wf : β → Prop} {ts : List TypeId} {fs : Array Field} (f : α → β) (g : β → α) (h : OpensL P ts d wf) (ht : P.underlying t = some (.struct fs)) (hts : fs.toList.map (fun f => f.type) = ts) (ho : offsOk P fs.toList 0 = true)
    (hc : P.cellsOf t = d.sz) (hfg : ∀ y, f (g y) = y) : Opens P t (Kd.iso d f) (fun x => wf (f x)) :=
  ⟨hc, fun {H} enc w base spare held fuel cs y hy hw => by
    obtain ⟨xs, n, _, rfl, hl, hxl, hf⟩ := DataW.trod_struct ht hy
    have h1 := trodL_of (cs := cs) fs.toList 0 xs ho (by simpa using hxl) (fun i f' hi => hf i f' (by simpa using hi))
    rw [hts, List.drop_zero] at h1
    simp only [DataW.weights, ht, hts] at hw
    obtain ⟨x, hx, hwf⟩ := h.go enc w base spare held n cs xs (hl.trans hc) h1 hw
    refine ⟨g x, ?_, ?_⟩
    · show d.K w (f (g x)) cs
      rw [hfg]; exact hx
    · show wf (f (g x))
      rw [hfg]; exact hwf⟩
theorem Opens.imp {α : Type} {d : Kd α} {wf wf' : α → Prop} (h : Opens P t d wf) (hi : ∀ x, wf x → wf' x) : Opens P t d wf' :=
  ⟨h.sz, fun enc w base spare held fuel cs y hy hw => by
    obtain ⟨x, hx, hwf⟩ := h.go enc w base spare held fuel cs y hy hw
    exact ⟨x, hx, hi x hwf⟩⟩
end

section
variable {H : Type} {enc : TypeId × Value → H} {P : Program} {W : World} {base : Nat} {spare : Nat → Bool} {held : Bool} {t : TypeId} {v : Value} {da : DataW H} {p : List MemPlace} {ts : List TypeId} {ds : List (DataW H)} {j : Nat}
theorem weights_at (hsz : (DataW.weightsEach P ts ds).all (· ≤ reachBytes) = true) (ht : ts[j]? = some t) (hd : ds[j]? = some da) : ∀ n ∈ da.weights P t, n ≤ reachBytes := fun n hn => by
  have := List.all_eq_true.1 hsz n (DataW.weights_mem_each ht hd n hn)
  simpa using this
/-- a struct, by value -/
theorem open_struct {r : Reach} {b0 : Nat} {α : Type} {d : Kd α} {wf : α → Prop} {fs : Array Field} (h : Opens P t d wf) (hs : P.underlying t = some (.struct fs)) (hv : Value.okWide P W r b0 t v) (hk : DataW.Trod enc P W base spare held t v da p)
    (hw : ∀ n ∈ da.weights P t, n ≤ reachBytes) : ∃ (x : α) (cs : Array Value), v = .agg cs ∧ d.K W x cs.toList ∧ wf x := by
  obtain ⟨cs, rfl, _⟩ := okWide_struct hs hv
  obtain ⟨fuel, hf⟩ := hk
  obtain ⟨x, hx, hwf⟩ := h.go enc W base spare held fuel _ _ hf hw
  exact ⟨x, cs, rfl, hx, hwf⟩
/-- a slice -/
theorem open_row {r : Reach} {b0 : Nat} {α : Type} {d : Kd α} {e e' : TypeId} {wf : List α → Prop} (h : Opens P t (Kd.slice e' d) wf) (hs : P.underlying t = some (.slice e)) (hv : Value.okWide P W r b0 t v) (hk : DataW.Trod enc P W base spare held t v da p)
    (hw : ∀ n ∈ da.weights P t, n ≤ reachBytes) : ∃ (xs : List α) (A : Option Addr) (c : Nat), v = .slice A xs.length c ∧ xs.length ≤ c ∧ d.C W A xs.length xs ∧ wf xs := by
  obtain ⟨a, len, cap, rfl⟩ := okWide_slice hs hv
  obtain ⟨fuel, hf⟩ := hk
  obtain ⟨x, ⟨A, c, hc, hl, hC⟩, hwf⟩ := h.go enc W base spare held fuel _ _ hf hw
  simp [Value.cells] at hc
  obtain ⟨rfl, rfl, rfl⟩ := hc
  exact ⟨x, _, _, rfl, hl, hC, hwf⟩
theorem trod_lt (h : DataW.Trod enc P W base spare held t v da p) : ∀ x ∈ p, x.block < W.heap.size := by
  obtain ⟨m, hm⟩ := h
  exact DataW.trod_lt m _ _ _ hm
end
/-- what came in, as what may be shared -/
theorem share {α : Type} {d : Kd α} (hd : Kd.Heap d) {w : World} {e base c : Nat} {A : Option Addr} {xs : List α} (hl : xs.length ≤ c) (h : d.C w A xs.length xs) : Kd.V d e w base (fun _ => True) (.slice A xs.length c) xs :=
  Kd.V_mk hl (fun _ hW => hd.C (fun k hk => hW k trivial hk) h)
end Go.Proofs.Ytjnakhgpenafdaa.Op
