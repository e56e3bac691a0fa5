import Derived.WalkKit
import Derived.ProofKit
import Derived.Below
import Derived.Laws.OwnMore
import Derived.Deep.AppendLies
import Derived.Deep.Draws
import Derived.Laws.Rows
import Derived.Maps.AppendAt
import Derived.RegionTactic
import Derived.OwnWalk
import Derived.Deep.OwnRows
import Derived.Deep.QuietTactic
import Derived.Deep.MidRow
import Derived.Lib.Hide
import Derived.Lib.ConvBytes
import Derived.ChangeSame
import Derived.Test.YtjnakhgpenafdaaProg
import Derived.KernelRfl
import Derived.WalkSpells
import Derived.Lib.AppendStr
import Derived.Laws.BytesArg
import Derived.Outline
import Derived.Test.YtjnakhgpenafdaaWWords
/- Words for memory: slices that read as lists, blocks known whole, appends onto rows of the call's own; plain lemmas, over any program. -/
namespace Go.Proofs.Ytjnakhgpenafdaa
open Go.RowKit
theorem block_of_add (a : Addr) (n : Nat) : (a.add n).block = a.block := by unfold Addr.add; split <;> rfl
theorem add_of_add (a : Addr) (i j : Nat) : (a.add i).add j = a.add (i + j) := by
  unfold Addr.add
  by_cases hi : i = 0 <;> by_cases hj : j = 0 <;> simp [hi, hj, Nat.add_assoc]

def Reads (w : World) (B size : Nat) (A : Option Addr) (n : Nat) (xs : List Value) : Prop :=
  xs.length = n * size ∧ (0 < n → ∃ ad, A = some ad ∧ ad.block < B ∧ ∀ j u, xs[j]? = some u → w.cell? (ad.add j) = some u)

section
variable {w w' : World} {B B' size n : Nat} {A : Option Addr} {xs : List Value}
theorem Reads.none_ : Reads w B size A 0 [] := ⟨by simp, fun h => absurd h (by omega)⟩
theorem Reads.at_ {k : Nat} (h : Reads w B 1 A n xs) (hk : k < n) : ∃ ad u, A = some ad ∧ ad.block < B ∧ xs[k]? = some u ∧ w.cell? (ad.add k) = some u := by
  obtain ⟨ad, e, hb, hc⟩ := h.2 (by omega)
  have hl : k < xs.length := by have := h.1; omega
  exact ⟨ad, xs[k], e, hb, List.getElem?_eq_getElem hl, hc k _ (List.getElem?_eq_getElem hl)⟩
theorem Reads.keep (h : Reads w B size A n xs) (hk : ∀ p : Addr, p.block < B → w'.cell? p = w.cell? p) : Reads w' B size A n xs :=
  ⟨h.1, fun hn => by
    obtain ⟨ad, e, hb, hc⟩ := h.2 hn
    exact ⟨ad, e, hb, fun j u hu => (hk _ (by rw [block_of_add]; exact hb)).trans (hc j u hu)⟩⟩
theorem Reads.more (h : Reads w B size A n xs) (hB : B ≤ B') : Reads w B' size A n xs :=
  ⟨h.1, fun hn => by
    obtain ⟨ad, e, hb, hc⟩ := h.2 hn
    exact ⟨ad, e, by omega, hc⟩⟩
theorem Reads.below (h : Reads w B size A n xs) (hb : Below B w w') : Reads w' B size A n xs := h.keep fun _ hp => hb.cell hp
theorem Reads.drew (h : Reads w B size A n xs) : Reads w.drew B size A n xs := h
theorem Reads.drewN (h : Reads w B size A n xs) (k : Nat) : Reads (w.drewN k) B size A n xs := h
theorem Reads.alloc (h : Reads w B size A n xs) (hB : B ≤ w.heap.size) (o : Obj) : Reads (w.alloc o) B size A n xs := h.keep fun p hp => World.cell?_alloc_lt w o p (by omega)
theorem Reads.setCell (h : Reads w B size A n xs) {p : Addr} (hB : B ≤ p.block) (u : Value) : Reads (w.setCell p u) B size A n xs :=
  h.keep fun q hq => World.cell?_setCell_other w p q u (fun e => by subst e; omega)
theorem Reads.grown (h : Reads w B size A n xs) {row : Option Nat} (hg : w.grownBy w' row) (hB : B ≤ w.heap.size) (hr : ∀ g, row = some g → B ≤ g) : Reads w' B size A n xs :=
  h.keep fun p hp => World.cell?_of_block (hg.block p.block (by omega) (fun e => by have := hr _ e.symm; omega))
theorem Reads.cut (h : Reads w B size A n xs) {k cap : Nat} (hk : k ≤ n) (hc : n ≤ cap) :
    Reads w B size (if cap = k then A else A.map (·.add (k * size))) (n - k) (xs.drop (k * size)) := by
  refine ⟨by rw [List.length_drop, h.1, Nat.sub_mul], fun hn => ?_⟩
  obtain ⟨ad, rfl, hb, hcell⟩ := h.2 (by omega)
  rw [if_neg (by omega)]
  refine ⟨ad.add (k * size), rfl, by rw [block_of_add]; exact hb, fun j u hu => ?_⟩
  rw [add_of_add]
  exact hcell _ u (by rw [← hu, List.getElem?_drop])
theorem Reads.of_own {base : Nat} {e : TypeId} {c : Nat} (h : w.ownsRow base e size (.slice A n c) n xs) : Reads w w.heap.size size A n xs := by
  refine ⟨h.1, fun hn => ?_⟩
  obtain ⟨g, cap, hv, _, hlt⟩ := h.form hn
  have hA : A = some ⟨g, 0, none⟩ := by injection hv
  subst hA
  exact ⟨_, rfl, hlt, h.cells (g := g) rfl⟩
end

def Blk (w : World) (g : Nat) (t : TypeId) (cs : Array Value) : Prop := w.heap[g]? = some (.cells cs t (0, 0))

section
variable {w w' : World} {g : Nat} {t : TypeId} {cs : Array Value}
theorem Blk.lt (h : Blk w g t cs) : g < w.heap.size := by
  rcases Nat.lt_or_ge g w.heap.size with hlt | hge
  · exact hlt
  · unfold Blk at h; rw [Array.getElem?_eq_none hge] at h; cases h
theorem Blk.cell (h : Blk w g t cs) (i : Nat) : w.cell? ⟨g, i, none⟩ = cs[i]? := cell_of_row w g i cs t (0, 0) h
theorem Blk.frozen (h : Blk w g t cs) (i : Nat) : w.frozen? ⟨g, i, none⟩ = false := by
  unfold Blk at h
  simp [World.frozen?, h]
theorem Blk.new (w : World) (t : TypeId) (cs : Array Value) : Blk (w.alloc (.cells cs t)) w.heap.size t cs := heap_alloc_new w _
theorem Blk.new_ (w : World) (t : TypeId) (cs : Array Value) {n : Nat} (hn : w.heap.size = n) : Blk (w.alloc (.cells cs t)) n t cs := by subst hn; exact Blk.new w t cs
theorem Blk.drew (h : Blk w g t cs) : Blk w.drew g t cs := h
theorem Blk.drewN (h : Blk w g t cs) (n : Nat) : Blk (w.drewN n) g t cs := h
theorem Blk.alloc (h : Blk w g t cs) (o : Obj) : Blk (w.alloc o) g t cs := (Below.heap_alloc w o g h.lt).trans h
theorem Blk.set_ (h : Blk w g t cs) (i : Nat) (u : Value) : Blk (w.setCell ⟨g, i, none⟩ u) g t (cs.setIfInBounds i u) := by
  unfold Blk at h ⊢
  simp [World.setCell, Array.getElem?_modify, h]
theorem Blk.far (h : Blk w g t cs) {p : Addr} (hp : g ≠ p.block) (u : Value) : Blk (w.setCell p u) g t cs := (Below.heap_setCell w p u g hp).trans h
theorem Blk.below {B : Nat} (h : Blk w g t cs) (hb : Below B w w') (hg : g < B) : Blk w' g t cs := (hb.block g hg).trans h
theorem Blk.grown {row : Option Nat} (h : Blk w g t cs) (hb : w.grownBy w' row) (hg : some g ≠ row) : Blk w' g t cs := (hb.block g h.lt hg).trans h
theorem Blk.ne_ {g' : Nat} {t' : TypeId} {cs' : Array Value} (h : Blk w g t cs) (h' : Blk w g' t' cs') (hne : t ≠ t') : g ≠ g' := by
  rintro rfl
  unfold Blk at h h'
  rw [h] at h'
  injection h' with h'
  injection h' with _ ht
  exact hne ht
theorem Blk.after (h : Blk w g t cs) (hb : Below w.heap.size w w') : Blk w' g t cs := h.below hb h.lt
theorem own_blk_ne {base : Nat} {e : TypeId} {size n : Nat} {v : Value} {xs : List Value} (h : w.ownsRow base e size v n xs) (hg : Blk w g t cs) (hne : e ≠ t) : v.ownBlock ≠ some g := by
  rcases h.2 with ⟨rfl, _⟩ | ⟨g', cap, cur, rfl, _, hh, _⟩
  · simp [Value.ownBlock]
  · intro he
    have : g' = g := by simpa [Value.ownBlock] using he
    subst this
    exact Blk.ne_ (t := e) hh hg hne rfl
end

section
variable {P : Program} (w : World)

theorem run_append_of_nil (base : Nat) (t ty e : TypeId) (i : TypeInfo) (size : Nat) (ht : P.underlying t = some (.slice e)) (hi : P.info? e = some i)
    (v : Value) (n : Nat) (xs : List Value) (hown : w.ownsRow base e size v n xs) (c : Nat) : (Builtin.append_ #[t, t] ty #[v, .slice none 0 c]).run P w = .ok v w := by
  rcases hown.2 with ⟨rfl, rfl⟩ | ⟨g, cap, cur, rfl, _, _, hnc, _⟩
  · simp [Builtin.append_, run_underlying ht, sizeOf, typeInfo, hi, Builtin.lenOf, Builtin.firstCells]
  · simp [Builtin.append_, run_underlying ht, sizeOf, typeInfo, hi, Builtin.lenOf, Builtin.firstCells, hnc, storeCells]

theorem run_append_any (base : Nat) (t ty e : TypeId) (i : TypeInfo) (z : Value) (size bytes : Nat) (ht : P.underlying t = some (.slice e)) (hi : P.info? e = some i) (hz : i.zero = some z)
    (hsize : i.size = size) (hby : i.bytes = bytes) (hzs : z.cells.size = size) (hsz : 0 < size)
    (v : Value) (n : Nat) (xs : List Value) (hown : w.ownsRow base e size v n xs)
    (B : Nat) (A : Option Addr) (m c : Nat) (news : List Value) (hr : Reads w B size A m news) (h1 : ∀ u ∈ news, u.oneCell' = true)
    (h63 : n + m ≤ maxLen) (hbytes : (n + m) * bytes ≤ 140737488355328) (hbase : base ≤ w.heap.size) :
    ∃ v' w', (Builtin.append_ #[t, t] ty #[v, .slice A m c]).run P w = .ok v' w' ∧ w'.ownsRow base e size v' (n + m) (xs ++ news) ∧ w.grownBy w' v.ownBlock ∧
      (v'.ownBlock = v.ownBlock ∨ v'.ownBlock = some w.heap.size) := by
  rcases A with _ | ad
  · have hm : m = 0 := by
      rcases Nat.eq_zero_or_pos m with h0 | h0
      · exact h0
      · obtain ⟨ad, h, _⟩ := hr.2 h0
        cases h
    subst hm
    have hn : news = [] := List.eq_nil_of_length_eq_zero (by simpa using hr.1)
    subst hn
    exact ⟨v, w, run_append_of_nil w base t ty e i size ht hi v n xs hown c, by simpa using hown, World.grownBy.refl w _, .inl rfl⟩
  · have hcells : ∀ j u, news[j]? = some u → w.cell? (ad.add j) = some u := by
      intro j u hu
      rcases Nat.eq_zero_or_pos m with h0 | h0
      · subst h0
        have hn : news = [] := List.eq_nil_of_length_eq_zero (by simpa using hr.1)
        subst hn
        simp at hu
      · obtain ⟨ad', h, _, hc⟩ := hr.2 h0
        injection h with h
        subst h
        exact hc j u hu
    obtain ⟨v', w', hrun, h2, h3, _, h5⟩ := run_append_own_at (P := P) w base t ty e i z size bytes ht hi hz hsize hby hzs hsz v n xs hown ad m c news hr.1 hcells h1 h63 hbytes hbase
    exact ⟨v', w', hrun, h2, h3, h5⟩

theorem wp_append_any {o : Oper} {a : Act} {K : Act → World → Prop} {Q : Exit → Act → World → Prop} (s x : Operand) (t : TypeId)
    (ho : o.op = .call { callee := .builtin .append, args := #[s, x], argTypes := #[t, t] })
    (base : Nat) (e : TypeId) (i : TypeInfo) (z : Value) (size bytes : Nat) (ht : P.underlying t = some (.slice e)) (hi : P.info? e = some i) (hz : i.zero = some z)
    (hsize : i.size = size) (hby : i.bytes = bytes) (hzs : z.cells.size = size) (hsz : 0 < size)
    (v : Value) (n : Nat) (xs : List Value) (hs : a.eval s = v) (hown : w.ownsRow base e size v n xs)
    (B : Nat) (A : Option Addr) (m c : Nat) (news : List Value) (hx : a.eval x = .slice A m c) (hr : Reads w B size A m news) (h1 : ∀ u ∈ news, u.oneCell' = true)
    (h63 : n + m ≤ maxLen) (hbytes : (n + m) * bytes ≤ 140737488355328) (hbase : base ≤ w.heap.size)
    (h : ∀ v' w', w'.ownsRow base e size v' (n + m) (xs ++ news) → w.grownBy w' v.ownBlock → (v'.ownBlock = v.ownBlock ∨ v'.ownBlock = some w.heap.size) → K (a.put o.dst v') w') : o.wp P a w K Q := by
  obtain ⟨v', w', hrun, h2, h3, h4⟩ := run_append_any (P := P) w base t o.type e i z size bytes ht hi hz hsize hby hzs hsz v n xs hown B A m c news hr h1 h63 hbytes hbase
  unfold Oper.wp execOp
  simp only [ho, resolve, invoke, builtin, Sem.run_bind, Sem.run_pure, Result.andThen_ok, List.map_toArray, List.map_cons, List.map_nil, hs, hx, hrun]
  exact h v' w' h2 h3 h4

theorem wpList_append_any {ops : Array Oper} {rest : List Oper} {o : Oper} {a : Act} {Q : Exit → Act → World → Prop} (hgd : o.guard = none) (s x : Operand) (t : TypeId)
    (ho : o.op = .call { callee := .builtin .append, args := #[s, x], argTypes := #[t, t] })
    (base : Nat) (e : TypeId) (i : TypeInfo) (z : Value) (size bytes : Nat) (ht : P.underlying t = some (.slice e)) (hi : P.info? e = some i) (hz : i.zero = some z)
    (hsize : i.size = size) (hby : i.bytes = bytes) (hzs : z.cells.size = size) (hsz : 0 < size)
    (v : Value) (n : Nat) (xs : List Value) (hs : a.eval s = v) (hown : w.ownsRow base e size v n xs)
    (B : Nat) (A : Option Addr) (m c : Nat) (news : List Value) (hx : a.eval x = .slice A m c) (hr : Reads w B size A m news) (h1 : ∀ u ∈ news, u.oneCell' = true)
    (h63 : n + m ≤ maxLen) (hbytes : (n + m) * bytes ≤ 140737488355328) (hbase : base ≤ w.heap.size)
    (h : ∀ v' w', w'.ownsRow base e size v' (n + m) (xs ++ news) → w.grownBy w' v.ownBlock → (v'.ownBlock = v.ownBlock ∨ v'.ownBlock = some w.heap.size) → wpList P ops Q rest (a.put o.dst v') w') : wpList P ops Q (o :: rest) a w :=
  wpList_plain hgd fun _ hK => wp_append_any w s x t ho base e i z size bytes ht hi hz hsize hby hzs hsz v n xs hs hown B A m c news hx hr h1 h63 hbytes hbase fun v' w' h2 h3 h4 => hK _ _ (h v' w' h2 h3 h4)

theorem step_append_any {ops : Array Oper} {o : Oper} {a : Act} {K : Act → World → Prop} {Q : Exit → Act → World → Prop} {E : Prop} (hgd : o.guard = none) (s x : Operand) (t : TypeId)
    (ho : o.op = .call { callee := .builtin .append, args := #[s, x], argTypes := #[t, t] })
    (base : Nat) (e : TypeId) (i : TypeInfo) (z : Value) (size bytes : Nat) (ht : P.underlying t = some (.slice e)) (hi : P.info? e = some i) (hz : i.zero = some z)
    (hsize : i.size = size) (hby : i.bytes = bytes) (hzs : z.cells.size = size) (hsz : 0 < size)
    (v : Value) (n : Nat) (xs : List Value) (hs : a.eval s = v) (hown : w.ownsRow base e size v n xs)
    (B : Nat) (A : Option Addr) (m c : Nat) (news : List Value) (hx : a.eval x = .slice A m c) (hr : Reads w B size A m news) (h1 : ∀ u ∈ news, u.oneCell' = true)
    (h63 : n + m ≤ maxLen) (hbytes : (n + m) * bytes ≤ 140737488355328) (hbase : base ≤ w.heap.size)
    (h : ∀ v' w', w'.ownsRow base e size v' (n + m) (xs ++ news) → w.grownBy w' v.ownBlock → (v'.ownBlock = v.ownBlock ∨ v'.ownBlock = some w.heap.size) → K (a.put o.dst v') w') :
    if Region.wanted o (yielded ops a.tmps) = true then Oper.wp P o a w K Q else E := by
  have hw : Region.wanted o (yielded ops a.tmps) = true := by simp [Region.wanted, hgd]
  rw [if_pos hw]
  exact wp_append_any w s x t ho base e i z size bytes ht hi hz hsize hby hzs hsz v n xs hs hown B A m c news hx hr h1 h63 hbytes hbase h
end

theorem hide {p : Prop} (h : p) : Hid p := h
theorem unhide {p : Prop} (h : Hid p) : p := h

theorem quiet_add {P : Program} {f : FuncId} {args : Array Value} {w : World} {a n : Nat} {v : Value}
    (h : Calls P f args (w.drewN (a + n)) fun e w' => e = .returned v ∧ ∃ m, w' = (w.drewN (a + n)).drewN m) :
    Calls P f args (w.drewN (a + n)) fun e w'' => e = .returned v ∧ ∃ m, w'' = w.drewN (a + m) :=
  h.mono fun _ _ ⟨he, m, hm⟩ => ⟨he, n + m, by rw [hm, World.drewN_drewN, Nat.add_assoc]⟩
theorem quiet_add_same {P : Program} {f : FuncId} {args : Array Value} {w : World} {a n : Nat} {v : Value}
    (h : Calls P f args (w.drewN (a + n)) fun e w' => e = .returned v ∧ w' = w.drewN (a + n)) :
    Calls P f args (w.drewN (a + n)) fun e w'' => e = .returned v ∧ ∃ m, w'' = w.drewN (a + m) :=
  h.mono fun _ _ ⟨he, hm⟩ => ⟨he, n, hm⟩
theorem quiet_add_left {P : Program} {f : FuncId} {args : Array Value} {w : World} {a n : Nat} {v : Value}
    (h : Calls P f args (w.drewN (a + n)) fun e w' => e = .returned v ∧ w.drewN (a + n) = w') :
    Calls P f args (w.drewN (a + n)) fun e w'' => e = .returned v ∧ ∃ m, w'' = w.drewN (a + m) :=
  h.mono fun _ _ ⟨he, hm⟩ => ⟨he, n, hm.symm⟩
theorem quiet_left {P : Program} {f : FuncId} {args : Array Value} {w : World} {n : Nat} {v : Value}
    (h : Calls P f args (w.drewN n) fun e w' => e = .returned v ∧ w.drewN n = w') : Calls P f args (w.drewN n) fun e w'' => e = .returned v ∧ ∃ m, w'' = w.drewN m :=
  h.mono fun _ _ ⟨he, hm⟩ => ⟨he, n, hm.symm⟩

theorem below_drewN {B : Nat} {a w : World} (h : Below B a w) (n : Nat) : Below B a (w.drewN n) := ⟨h.os, h.tape, h.output, h.size, h.block⟩
theorem rowIs_drewN {w : World} {b : Nat} {t : TypeId} {n : Nat} {f : Nat → Value} (h : w.rowIs b t n f) (k : Nat) : (w.drewN k).rowIs b t n f := h
theorem grown_trans {a b c : World} (h : Grown a b) (k : Grown b c) : Grown a c :=
  ⟨World.keptBut_trans h.1 k.1, fun x => (k.2.1 x).trans (h.2.1 x), Nat.le_trans h.2.2 k.2.2⟩

theorem only_drewN {a w : World} {row : Option Nat} (h : a.grownBy w row) (n : Nat) : a.grownBy (w.drewN n) row := ⟨h.os, h.tape, h.output, h.size, h.block⟩
theorem only_drew {a w : World} {row : Option Nat} (h : a.grownBy w row) : a.grownBy w.drew row := ⟨h.os, h.tape, h.output, h.size, h.block⟩
theorem only_alloc {a w : World} {row : Option Nat} (h : a.grownBy w row) (o : Obj) : a.grownBy (w.alloc o) row :=
  ⟨h.os, h.tape, h.output, Nat.le_trans h.size (by simp), fun i hi hne => (Below.heap_alloc w o i (Nat.lt_of_lt_of_le hi h.size)).trans (h.block i hi hne)⟩
theorem only_setCell {a w : World} {g : Nat} (h : a.grownBy w (some g)) {p : Addr} (hp : p.block = g ∨ a.heap.size ≤ p.block) (u : Value) : a.grownBy (w.setCell p u) (some g) :=
  ⟨h.os, h.tape, h.output, by simpa [World.setCell] using h.size, fun i hi hne => (Below.heap_setCell w p u i (by
    rintro rfl
    rcases hp with hp | hp
    · exact hne (by rw [hp])
    · omega)).trans (h.block i hi hne)⟩
theorem only_of_below {a w : World} (h : Below a.heap.size a w) (row : Option Nat) : a.grownBy w row := ⟨h.os, h.tape, h.output, h.size, fun i hi _ => h.block i hi⟩


/-- 'max(x, 0)' of a whole number -/
theorem max2_zero (k k' : IntKind) (x : Int) : Builtin.max2 (.int k x) (.int k' 0) = pure (.int k (x.toNat : Int)) := by
  simp only [Builtin.max2, gt_iff_lt]
  congr 2
  split <;> omega
theorem max_two (ats : Array TypeId) (ty : TypeId) (a b : Value) : Builtin.max_ ats ty #[a, b] = (Builtin.max2 a b >>= fun s => pure s) := by simp only [Builtin.max_, List.foldlM_cons, List.foldlM_nil]
theorem min_two (ats : Array TypeId) (ty : TypeId) (a b : Value) : Builtin.min_ ats ty #[a, b] = (Builtin.min2 a b >>= fun s => pure s) := by simp only [Builtin.min_, List.foldlM_cons, List.foldlM_nil]
theorem wrap_u64_nat (n : Nat) (h : n < 18446744073709551616) : IntKind.u64.wrap (n : Int) = n := by rw [IntKind.wrap_u64]; omega
/-- the smaller one -/
def mn (x y : Int) : Int := if y < x then y else x
theorem min2_mn (k k' : IntKind) (x y : Int) : Builtin.min2 (.int k x) (.int k' y) = pure (.int k (mn x y)) := by simp only [Builtin.min2, mn]
theorem mn_le (x y : Int) : mn x y ≤ x ∧ mn x y ≤ y := by unfold mn; split <;> omega
theorem mn_eq (x y : Int) : mn x y = x ∨ mn x y = y := by unfold mn; split <;> simp
end Go.Proofs.Ytjnakhgpenafdaa
/- Bytes: slices of bytes that read as a list, rows of bytes of the call's own; slices.Clone at bytes. -/
namespace Go.Proofs.Ytjnakhgpenafdaa
open Go.RowKit

theorem info_u8 : (Try.prog.info? 5).map (fun i => (i.zero, i.size, i.bytes)) = some (some (.int .u8 0), 1, 1) := by kernel_rfl

/-- bytes as cells -/
def B8 (l : List UInt8) : List Value := l.map fun b => .int .u8 (b.toNat : Int)
theorem B8_length (l : List UInt8) : (B8 l).length = l.length := by simp [B8]
theorem B8_append (l m : List UInt8) : B8 l ++ B8 m = B8 (l ++ m) := by simp [B8]
theorem B8_one (l : List UInt8) : ∀ u ∈ B8 l, u.oneCell' = true := by
  intro u hu
  simp only [B8, List.mem_map] at hu
  obtain ⟨b, _, rfl⟩ := hu
  rfl
theorem B8_at (l : List UInt8) (k : Nat) (h : k < l.length) : (B8 l)[k]? = some (.int .u8 ((l[k]'h).toNat : Int)) := by simp [B8, h]

/-- a row of bytes of the call's own, the call begun at w -/
structure OwnB (w w' : World) (A : Option Addr) (n c : Nat) (l : List UInt8) : Prop where
  own : w'.ownsRow w.heap.size 5 1 (.slice A n c) n (B8 l)
  below : Below w.heap.size w w'
theorem own_bytes_length {w : World} {base n : Nat} {v : Value} {l : List UInt8} (h : w.ownsRow base 5 1 v n (B8 l)) : l.length = n := by have := h.1; rw [B8_length] at this; omega
theorem OwnB.len {w w' : World} {A : Option Addr} {n c : Nat} {l : List UInt8} (h : OwnB w w' A n c l) : l.length = n := own_bytes_length h.own
theorem own_form {w : World} {base : Nat} {e : TypeId} {n : Nat} {v : Value} {xs : List Value} (h : w.ownsRow base e 1 v n xs) : ∃ A c, v = .slice A n c := by
  rcases h.2 with ⟨rfl, h0⟩ | ⟨g, cap, cur, rfl, _⟩
  · subst h0
    exact ⟨none, 0, rfl⟩
  · exact ⟨_, cap, rfl⟩
/-- a call that hands back new bytes -/
def RetB (w : World) (l : List UInt8) (e : Ending) (w' : World) : Prop := ∃ A n c, e = .returned (.slice A n c) ∧ OwnB w w' A n c l
theorem RetB.mk {w w' : World} {l : List UInt8} {n : Nat} {v : Value} (h : w'.ownsRow w.heap.size 5 1 v n (B8 l)) (hb : Below w.heap.size w w') : RetB w l (.returned v) w' := by
  obtain ⟨A, c, rfl⟩ := own_form h
  exact ⟨A, n, c, rfl, h, hb⟩
/-- a row of a later call's own is this call's own -/
theorem own_base_le {w : World} {base base' : Nat} {e : TypeId} {size n : Nat} {v : Value} {xs : List Value} (h : w.ownsRow base e size v n xs) (hb : base' ≤ base) : w.ownsRow base' e size v n xs := by
  refine ⟨h.1, ?_⟩
  rcases h.2 with h1 | ⟨g, cap, cur, hv, hg, r⟩
  · exact .inl h1
  · exact .inr ⟨g, cap, cur, hv, Nat.le_trans hb hg, r⟩
theorem OwnB.from {w w1 w2 : World} {A : Option Addr} {n c : Nat} {l : List UInt8} (h : OwnB w1 w2 A n c l) (hb : Below w.heap.size w w1) : OwnB w w2 A n c l :=
  ⟨own_base_le h.own hb.size, hb.trans (h.below.mono hb.size)⟩
theorem RetB.of_call {w w1 w2 : World} {A : Option Addr} {n c : Nat} {l : List UInt8} (hb : Below w.heap.size w w1) (h : OwnB w1 w2 A n c l) : RetB w l (.returned (.slice A n c)) w2 := ⟨A, n, c, rfl, h.from hb⟩
theorem Reads.up {w w1 : World} {size n : Nat} {A : Option Addr} {xs : List Value} (h : Reads w w.heap.size size A n xs) (hb : Below w.heap.size w w1) : Reads w1 w1.heap.size size A n xs := (h.below hb).more hb.size
theorem below_then {w w1 w2 : World} (h : Below w.heap.size w w1) (k : Below w1.heap.size w1 w2) : Below w.heap.size w w2 := h.trans (k.mono h.size)
theorem OwnB.reads {w w' : World} {A : Option Addr} {n c : Nat} {l : List UInt8} (h : OwnB w w' A n c l) : Reads w' w'.heap.size 1 A n (B8 l) := Reads.of_own h.own
set_option linter.unusedSimpArgs false
theorem OwnB.reads_drew {w w' : World} {A : Option Addr} {n c : Nat} {l : List UInt8} (h : OwnB w w' A n c l) : Reads w'.drew w'.drew.heap.size 1 A n (B8 l) := h.reads
theorem Reads.bytes_length {w : World} {B : Nat} {A : Option Addr} {n : Nat} {l : List UInt8} (h : Reads w B 1 A n (B8 l)) : l.length = n := by have := h.1; rw [B8_length] at this; omega

/-- append(v, x...): v a row of bytes of the call's own, x whatever slice of bytes -/
theorem wpList_append_bytes {ops : Array Oper} {rest : List Oper} {o : Oper} {a : Act} {Q : Exit → Act → World → Prop} {w0 w : World} (base : Nat) (hgd : o.guard = none) (s x : Operand)
    (ho : o.op = .call { callee := .builtin .append, args := #[s, x], argTypes := #[25, 25] }) (v : Value) (n : Nat) (l m : List UInt8) (hs : a.eval s = v)
    (hown : w.ownsRow base 5 1 v n (B8 l)) (A : Option Addr) (k c : Nat) (hx : a.eval x = .slice A k c) (B : Nat) (hr : Reads w B 1 A k (B8 m)) (hlen : l.length + m.length ≤ 140737488355328)
    (hbase : base ≤ w.heap.size) (hb : Below base w0 w)
    (h : ∀ A' n' c' w', w'.ownsRow base 5 1 (.slice A' n' c') n' (B8 (l ++ m)) → Below base w0 w' → w.grownBy w' v.ownBlock → wpList Try.prog ops Q rest (a.put o.dst (.slice A' n' c')) w') :
    wpList Try.prog ops Q (o :: rest) a w := by
  obtain ⟨i0, hi0, hz0, hz1, hz2⟩ := info_parts info_u8
  have hn : l.length = n := by have := hown.1; rw [B8_length] at this; omega
  have hk := hr.bytes_length
  refine wpList_append_any _ hgd s x 25 ho base 5 i0 _ 1 1 Try.underlying25 hi0 hz0 hz1 hz2 rfl (by omega) v n (B8 l) hs hown B A k c (B8 m) hx hr (B8_one m) (by simp only [maxLen]; omega) (by omega) hbase ?_
  intro v1 w1 hown1 hg1 _
  rw [B8_append] at hown1
  obtain ⟨A', c', rfl⟩ := own_form hown1
  exact h A' _ c' w1 hown1 (hb.grown hg1 hbase fun k hk => (hown.lt k hk).1) hg1
/-- append(v, b): the byte lies in a block of its own -/
theorem wpList_append_byte {ops : Array Oper} {rest : List Oper} {o : Oper} {a : Act} {Q : Exit → Act → World → Prop} {w0 w : World} (base : Nat) (hgd : o.guard = none) (s x : Operand)
    (ho : o.op = .call { callee := .builtin .append, args := #[s, x], argTypes := #[25, 25] }) (v : Value) (n : Nat) (l : List UInt8) (z : Int) (b : UInt8) (hz : z = (b.toNat : Int)) (hs : a.eval s = v)
    (hown : w.ownsRow base 5 1 v n (B8 l)) (hx : a.eval x = .slice (some ⟨w.heap.size, 0, none⟩) 1 1) (hlen : l.length < 140737488355328)
    (hbase : base ≤ w.heap.size) (hb : Below base w0 w)
    (h : ∀ A' n' c' w', w'.ownsRow base 5 1 (.slice A' n' c') n' (B8 (l ++ [b])) → Below base w0 w' → w.grownBy w' v.ownBlock → wpList Try.prog ops Q rest (a.put o.dst (.slice A' n' c')) w') :
    wpList Try.prog ops Q (o :: rest) a (w.alloc (.cells #[.int .u8 z] 5)) := by
  subst hz
  refine wpList_append_bytes (w0 := w0) base hgd s x ho v n l [b] hs (hown.alloc _) (some ⟨w.heap.size, 0, none⟩) 1 1 hx (w.heap.size + 1) ?_ (by simp; omega) (by simp; omega) (hb.alloc hbase _) ?_
  · refine ⟨rfl, fun _ => ⟨_, rfl, by simp, ?_⟩⟩
    intro j u hj
    match j, hj with
    | 0, hj => simp [B8] at hj; subst hj; simp [Addr.add]
  · intro A' n' c' w' h1 h2 h3
    exact h A' n' c' w' h1 h2 (World.grownBy.trans (World.grownBy_alloc w _ _) h3)
/-- an empty row of the call's own: '[]byte{}' -/
theorem own_empty (w : World) (base : Nat) (hb : base ≤ w.heap.size) : (w.alloc (.cells #[] 5)).ownsRow base 5 1 (.slice (some ⟨w.heap.size, 0, none⟩) 0 0) 0 (B8 []) := by
  have h := World.ownsRow_lit (base := base) (e := 5) (size := 1) w #[] 0 hb (by simp [maxLen]) (by simp)
  simpa [B8] using h

/-- append(v, s...), s a string -/
theorem wpList_append_text {ops : Array Oper} {rest : List Oper} {o : Oper} {a : Act} {Q : Exit → Act → World → Prop} {w0 w : World} (base : Nat) (hgd : o.guard = none) (s x : Operand)
    (ho : o.op = .call { callee := .builtin .append, args := #[s, x], argTypes := #[25, 9] }) (v : Value) (n : Nat) (l : List UInt8) (m : ByteArray) (hs : a.eval s = v)
    (hown : w.ownsRow base 5 1 v n (B8 l)) (hx : a.eval x = .string m) (hlen : l.length + m.size ≤ 140737488355328)
    (hbase : base ≤ w.heap.size) (hb : Below base w0 w)
    (h : ∀ A' n' c' w', w'.ownsRow base 5 1 (.slice A' n' c') n' (B8 (l ++ m.data.toList)) → Below base w0 w' → w.grownBy w' v.ownBlock → wpList Try.prog ops Q rest (a.put o.dst (.slice A' n' c')) w') :
    wpList Try.prog ops Q (o :: rest) a w := by
  obtain ⟨i0, hi0, hz0, hz1, hz2⟩ := info_parts info_u8
  have hn : l.length = n := by have := hown.1; rw [B8_length] at this; omega
  refine Lib.wpList_append_own_string _ hgd s x 25 9 ho base 5 i0 Try.underlying25 Try.underlying9 hi0 hz0 hz1 hz2 v n (B8 l) hs hown m hx (by simp only [maxLen]; omega) (by omega) hbase ?_
  intro v1 w1 hown1 hg1 _
  have e : B8 l ++ Lib.strCells m = B8 (l ++ m.data.toList) := by simp [B8, Lib.strCells]
  rw [e] at hown1
  obtain ⟨A', c', rfl⟩ := own_form hown1
  exact h A' _ c' w1 hown1 (hb.grown hg1 hbase fun k hk => (hown.lt k hk).1) hg1
/-- []byte(s) -/
theorem wpList_bytes_text {ops : Array Oper} {rest : List Oper} {o : Oper} {a : Act} {Q : Exit → Act → World → Prop} {w0 w : World} (base : Nat) (hgd : o.guard = none) (x : Operand)
    (ho : o.op = .convert 9 25 x) (m : ByteArray) (hx : a.eval x = .string m) (hbase : base ≤ w.heap.size) (hb : Below base w0 w)
    (h : ∀ A' n' c' w', Reads w' w'.heap.size 1 A' n' (B8 m.data.toList) → Below base w0 w' → Below w.heap.size w w' → wpList Try.prog ops Q rest (a.put o.dst (.slice A' n' c')) w') :
    wpList Try.prog ops Q (o :: rest) a w := by
  refine wpList_plain hgd fun K hK => ?_
  unfold Oper.wp execOp
  simp only [ho, hx, run_bytes_of_string w 9 25 5 m Try.underlying9 Try.underlying25 Try.underlying5, Sem.run_bind, Sem.run_pure, Result.andThen_ok]
  have hm : m.data.toList.length = m.size := by rw [Array.length_toList]; rfl
  refine hK _ _ (h _ _ _ _ ⟨by rw [B8_length, hm]; omega, fun _ => ⟨_, rfl, by simp, ?_⟩⟩ (((below_drewN hb 1)).alloc hbase _) (((below_drewN (Below.refl w.heap.size w) 1)).alloc (Nat.le_refl _) _))
  intro j u hu
  have hj : j < m.size := by
    rcases Nat.lt_or_ge j m.size with h | h
    · exact h
    · rw [List.getElem?_eq_none (by rw [B8_length]; omega)] at hu; cases hu
  rw [B8_at _ j (by omega)] at hu
  injection hu with hu
  subst hu
  rw [Addr.add_mid]
  refine (cell_of_row _ w.drew.heap.size _ _ _ _ (heap_alloc_new w.drew _)).trans ?_
  have hj' : j < m.data.size := hj
  have hg : m.data[j]? = some (m.data[j]'hj') := Array.getElem?_eq_getElem hj'
  simp [bytesRow, Array.getElem?_append, hj, hg]
/-- string(b) -/
theorem strOfNums_bytes (l : List UInt8) : strOfNums (l.map fun b => (b.toNat : Int)) = ⟨l.toArray⟩ := by
  unfold strOfNums
  congr 1
  congr 1
  rw [List.map_map]
  exact (List.map_congr_left fun b _ => by simp).trans (List.map_id l)
theorem run_text_bytes {w : World} {B : Nat} {A : Option Addr} {n c : Nat} {l : List UInt8} (hr : Reads w B 1 A n (B8 l)) :
    (convert 25 9 (.slice A n c)).run Try.prog w = .ok (.string ⟨l.toArray⟩) w := by
  have hn := hr.bytes_length
  rcases A with _ | ad
  · have h0 : l = [] := by
      rcases Nat.eq_zero_or_pos n with h0 | h0
      · exact List.eq_nil_of_length_eq_zero (by omega)
      · obtain ⟨ad, h, _⟩ := hr.2 h0; cases h
    subst h0
    exact run_convert_bytes_nil (P := Try.prog) w 25 5 Try.underlying25 Try.underlying5 n c 9 Try.underlying9
  · have hl : (loadCells ad n).run Try.prog w = .ok ((l.map fun b => (b.toNat : Int)).map (Value.int .u8)).toArray w := by
      have h := run_loadCells_list (P := Try.prog) w ad (B8 l) (fun j v hj => by
        have hjl : j < n := by
          rcases Nat.lt_or_ge j n with h | h
          · exact h
          · rw [List.getElem?_eq_none (by rw [B8_length]; omega)] at hj; cases hj
        obtain ⟨ad', e, _, hc⟩ := hr.2 (by omega)
        injection e with e
        subst e
        exact hc j v hj)
      rw [B8_length, hn] at h
      rw [h, List.map_map]
      rfl
    rw [run_convert_bytes_string w 25 9 5 _ n c Try.underlying25 Try.underlying5 Try.underlying9, run_bytesToString w _ n c _ hl, foldl_push_bytes]
    simp [ByteArray.empty, ByteArray.emptyWithCapacity, Function.comp_def]
    rfl

set_option maxHeartbeats 400000 in
theorem clone_any (A : Option Addr) (n c : Nat) (l : List UInt8) (w : World) (hr : Reads w w.heap.size 1 A n (B8 l)) (hl : l.length ≤ 140737488355328) :
    Calls Try.prog 50 #[.slice A n c] w (RetB w l) := by
  have hn := hr.bytes_length
  subst hn
  rcases A with _ | a
  · have h0 : l = [] := by
      rcases Nat.eq_zero_or_pos l.length with h0 | h0
      · exact List.eq_nil_of_length_eq_zero h0
      · obtain ⟨ad, h, _⟩ := hr.2 h0; cases h
    subst h0
    have hq := fun w => Lib.run_eql_slice_nil (P := Try.prog) w 25 5 none 0 c 0 0 Try.underlying25
    go_enter Try.func50, Try.ntmps50
    go_wp2
    go_ret
    exact RetB.mk (n := 0) (World.ownsRow_nil _ _ _ _) (Below.refl _ _)
  · have hq := fun w => Lib.run_eql_slice_nil (P := Try.prog) w 25 5 (some a) l.length c 0 0 Try.underlying25
    have HR := Lib.hid hr
    clear hr
    go_enter Try.func50, Try.ntmps50
    go_wp2_with (first
      | (at_builtin; refine wpList_append_bytes (w0 := w) w.heap.size (by rfl) (.tmp 5) (.tmp 6) (by rfl) _ 0 [] l (by rfl) (own_empty _ _ (Nat.le_refl _)) (some a) l.length c (by rfl) w.heap.size (HR.out.alloc (Nat.le_refl _) _) (by simpa using hl) (by simp) ((Below.refl _ _).alloc (Nat.le_refl _) _) ?_; intro A1 n1 c1 w1 hown1 hb1 _))
    go_ret
    exact RetB.mk hown1 hb1

end Go.Proofs.Ytjnakhgpenafdaa
/- Numbers as bytes, the highest first: plain Lean. -/
namespace Go.Proofs.Ytjnakhgpenafdaa.Cn

def byte (n : Nat) : UInt8 := UInt8.ofNat n
/-- a number by so many bytes, the highest first -/
def be (n many : Nat) : List UInt8 := (List.range many).map fun j => byte (n / 2 ^ (8 * (many - 1 - j)))
theorem be_length (n many : Nat) : (be n many).length = many := by simp [be]
theorem be_take (n many k : Nat) (h : k < many) : (be n many).take (k + 1) = (be n many).take k ++ [byte (n / 2 ^ (8 * (many - 1 - k)))] := by
  rw [List.take_succ_eq_append_getElem (by rw [be_length]; exact h)]
  simp [be]
theorem be_all (n many : Nat) : (be n many).take many = be n many := List.take_of_length_le (by rw [be_length]; exact Nat.le_refl _)
theorem byte_toNat (n : Nat) : ((byte n).toNat : Int) = (n : Int) % 256 := by
  simp [byte]
theorem byte_div (m e : Nat) : (m : Int) / 2 ^ e % 256 = ((byte (m / 2 ^ e)).toNat : Int) := by
  rw [byte_toNat, Int.natCast_ediv, Int.natCast_pow]
  rfl
/-- a sign, a number behind it -/
def part (out : List UInt8) (sign : UInt8) (n many : Nat) : List UInt8 := (out ++ [sign]) ++ be n many
def uint (out : List UInt8) (n : Nat) : List UInt8 := part out 117 n 8
def bytes (out b : List UInt8) : List UInt8 := part out 98 b.length 4 ++ b
def text (out b : List UInt8) : List UInt8 := part out 115 b.length 4 ++ b
def bool (out : List UInt8) (b : Bool) : List UInt8 := out ++ [if b then 116 else 102]
def list (out : List UInt8) (n : Nat) : List UInt8 := part out 108 n 4
theorem part_length (out : List UInt8) (s : UInt8) (n m : Nat) : (part out s n m).length = out.length + 1 + m := by simp [part, be_length]; omega
theorem uint_length (out : List UInt8) (n : Nat) : (uint out n).length = out.length + 9 := by simp [uint, part_length]
theorem bytes_length (out b : List UInt8) : (bytes out b).length = out.length + 5 + b.length := by simp [bytes, part_length]
theorem text_length (out b : List UInt8) : (text out b).length = out.length + 5 + b.length := by simp [text, part_length]
end Go.Proofs.Ytjnakhgpenafdaa.Cn
/- The bridge between the printed words (bytes as whole numbers) and the walks by hand (bytes as UInt8). -/
namespace Go.Proofs.Ytjnakhgpenafdaa
open Go.RowKit Go.Proofs.YtjnakhgpenafdaaW.PrintWords
set_option linter.unusedVariables false
set_option linter.unusedSimpArgs false

def ok8 (l : List Int) : Bool := l.all fun x => decide (0 ≤ x) && decide (x ≤ 255)
def u8s (l : List Int) : List UInt8 := l.map fun x => UInt8.ofNat x.toNat
def i8s (l : List UInt8) : List Int := l.map fun b => (b.toNat : Int)
theorem u8s_length (l : List Int) : (u8s l).length = l.length := by simp [u8s]
theorem i8s_length (l : List UInt8) : (i8s l).length = l.length := by simp [i8s]
theorem ok8_mem {l : List Int} (h : ok8 l = true) : ∀ x ∈ l, 0 ≤ x ∧ x ≤ 255 := by
  intro x hx
  have := List.all_eq_true.1 h x hx
  simpa using this
theorem ok8_of {l : List Int} (h : ∀ x ∈ l, 0 ≤ x ∧ x ≤ 255) : ok8 l = true := by
  unfold ok8
  rw [List.all_eq_true]
  intro x hx
  simpa using h x hx
theorem u8_of_int {x : Int} (h : 0 ≤ x ∧ x ≤ 255) : ((UInt8.ofNat x.toNat).toNat : Int) = x := by
  have : (UInt8.ofNat x.toNat).toNat = x.toNat % 256 := by simp
  rw [this]; omega
theorem i8s_u8s {l : List Int} (h : ok8 l = true) : i8s (u8s l) = l := by
  unfold i8s u8s
  rw [List.map_map]
  have e : l.map ((fun b : UInt8 => (b.toNat : Int)) ∘ fun x : Int => UInt8.ofNat x.toNat) = l.map id := List.map_congr_left fun x hx => u8_of_int (ok8_mem h x hx)
  rw [e, List.map_id]
theorem u8s_i8s (l : List UInt8) : u8s (i8s l) = l := by
  unfold i8s u8s
  rw [List.map_map]
  have e : l.map ((fun x : Int => UInt8.ofNat x.toNat) ∘ fun b : UInt8 => (b.toNat : Int)) = l.map id := List.map_congr_left fun x _ => by simp
  rw [e, List.map_id]
theorem ok8_i8s (l : List UInt8) : ok8 (i8s l) = true := ok8_of fun x hx => by
  simp only [i8s, List.mem_map] at hx
  obtain ⟨b, _, rfl⟩ := hx
  have := b.toNat_lt
  omega
theorem ok8_append {l m : List Int} (h : ok8 l = true) (h' : ok8 m = true) : ok8 (l ++ m) = true := by
  unfold ok8 at *
  rw [List.all_append, h, h']; rfl
theorem i8s_append (l m : List UInt8) : i8s (l ++ m) = i8s l ++ i8s m := by simp [i8s]
theorem u8s_append (l m : List Int) : u8s (l ++ m) = u8s l ++ u8s m := by simp [u8s]
theorem i8s_inj {l m : List UInt8} (h : i8s l = i8s m) : l = m := by rw [← u8s_i8s l, h, u8s_i8s]
theorem encs_i8s (l : List UInt8) : encs (Value.int .u8) (i8s l) = B8 l := by simp [encs, i8s, B8]
/-- a row of bytes that is read, in the walks' words -/
theorem reads_u8 {w : World} {A : Option Addr} {n : Nat} {l : List Int} (h : Kd.C (Kd.int .u8) w A n l) (h8 : ok8 l = true) : Reads w w.heap.size 1 A n (B8 (u8s l)) := by
  have h' := Kd.reads_of_C (d := (0 : Int)) h
  have e : B8 (u8s l) = encs (Value.int .u8) l := by rw [← encs_i8s, i8s_u8s h8]
  refine ⟨by rw [B8_length, u8s_length]; have := h'.1; omega, fun hn => ?_⟩
  obtain ⟨ad, he, hc⟩ := h'.2.2 hn
  have hb : ad.block < w.heap.size := by
    have := hc 0 hn
    have := World.block_lt_of_cell? w _ this
    rwa [block_of_add] at this
  refine ⟨ad, he, hb, fun j u hu => ?_⟩
  rw [e] at hu
  have hj : j < l.length := by
    rcases Nat.lt_or_ge j l.length with hj | hj
    · exact hj
    · rw [List.getElem?_eq_none (by rw [encs_length]; exact hj)] at hu; cases hu
  have hj' : j < n := by have := h'.1; omega
  rw [encs_get (enc := Value.int .u8) (d := (0 : Int)) l j hj] at hu
  injection hu with hu
  rw [← hu]
  exact hc j hj'
/-- new bytes, in the printed words -/
theorem own_u8 {w' : World} {base n : Nat} {v : Value} {l : List UInt8} {ok : Nat → Prop} (h : w'.ownsRow base 5 1 v n (B8 l)) (hok : ∀ k, v.ownBlock = some k → ok k) : Kd.R (Kd.int .u8) 5 w' base ok v (i8s l) := by
  have hn : l.length = n := own_bytes_length h
  refine Kd.R_of_own ?_ hok
  rw [i8s_length, hn]
  have e : encs (Value.int .u8) (i8s l) = B8 l := encs_i8s l
  rw [e]
  exact h
/-- what a call that hands back new bytes answers, in the printed words -/
def RetP (w : World) (l : List Int) (e : Ending) (w' : World) : Prop := ∃ v0_ : Value, e = .returned v0_ ∧ Kd.R (Kd.int .u8) 5 w' w.heap.size (fun _ => True) v0_ l ∧ Below w.heap.size w w'
theorem RetB.out_ {w : World} {l : List UInt8} {e : Ending} {w' : World} (h : RetB w l e w') : RetP w (i8s l) e w' := by
  obtain ⟨A, n, c, rfl, ho⟩ := h
  exact ⟨_, rfl, own_u8 ho.own (fun _ _ => trivial), ho.below⟩
end Go.Proofs.Ytjnakhgpenafdaa
/- canon's writers: what each hands back. -/
namespace Go.Proofs.Ytjnakhgpenafdaa
open Go.RowKit
set_option linter.unusedVariables false

set_option maxHeartbeats 800000 in
theorem long_any (base : Nat) (A : Option Addr) (n c : Nat) (l : List UInt8) (m many : Nat) (w0 w : World) (hm : m < 18446744073709551616) (hmany : many ≤ 8)
    (hown : w.ownsRow base 5 1 (.slice A n c) n (B8 l)) (hb : Below base w0 w) (hbase : base ≤ w.heap.size) (hl : l.length + many ≤ 140737488355328) :
    Calls Try.prog 65 #[.slice A n c, .int .u64 (m : Int), .int .i64 (many : Int)] w
      fun e w' => ∃ A' n' c', e = .returned (.slice A' n' c') ∧ w'.ownsRow base 5 1 (.slice A' n' c') n' (B8 (l ++ Cn.be m many)) ∧ Below base w0 w' := by
  go_enter Try.func65, Try.ntmps65
  go_wp2
  go_loopw [0, 7] (fun v i wr => ∃ (k j : Nat) (A' : Option Addr) (c' : Nat), k ≤ many ∧ i = .int .i64 ((many : Int) - 1 - (k : Int)) ∧ v = .slice A' j c' ∧
      wr.ownsRow base 5 1 (.slice A' j c') j (B8 (l ++ (Cn.be m many).take k)) ∧ Below base w0 wr ∧ base ≤ wr.heap.size)
    (fun _ i _ => (intOf i + 1).toNat)
  case atStart => exact ⟨0, n, A, c, by omega, by simp, rfl, by simpa using hown, hb, hbase⟩
  case round =>
    obtain ⟨k, j, A', c', hk, rfl, rfl, hown, hb, hbase⟩ := hrel
    have hj : (l ++ (Cn.be m many).take k).length = j := by have := hown.1; rw [B8_length] at this; omega
    rw [List.length_append, List.length_take, Cn.be_length] at hj
    by_cases hlt : k < many
    · have HE := Lib.hid (Cn.be_take m many k hlt)
      have hj2 : (l ++ (Cn.be m many).take k).length < 140737488355328 := by rw [List.length_append, List.length_take, Cn.be_length]; omega
      clear hj
      go_wp2_with (first
        | (at_builtin; refine wpList_append_byte (w0 := w0) base (by rfl) (.tmp 14) (.tmp 21) (by rfl) _ j (l ++ (Cn.be m many).take k) _ (Cn.byte (m / 2 ^ (8 * (many - 1 - k)))) (Cn.byte_div _ _) (by rfl) hown (by rfl) hj2 hbase hb ?_; intro A1 n1 c1 w1 hown1 hb1 hg1))
      go_roundw
      case rel => exact ⟨k + 1, n1, A1, c1, hlt, by go_num, rfl, by rw [HE.out, ← List.append_assoc]; exact hown1, hb1, Nat.le_trans hbase hg1.size⟩
      case measure => simp [intOf]; omega
    · obtain rfl : k = many := by omega
      rw [Cn.be_all] at hown
      clear hj
      go_wp2_with fail
      go_ret
      exact ⟨A', j, c', rfl, hown, hb⟩

/-- the sign and the number, in new memory -/
theorem part_any (A : Option Addr) (n c : Nat) (l : List UInt8) (s : UInt8) (m many : Nat) (w : World) (hr : Reads w w.heap.size 1 A n (B8 l)) (hm : m < 18446744073709551616) (hmany : many ≤ 8) (hl : l.length + 1 + many ≤ 140737488355328) :
    Calls Try.prog 52 #[.slice A n c, .int .u8 (s.toNat : Int), .int .u64 (m : Int), .int .i64 (many : Int)] w (RetB w (Cn.part l s m many)) := by
  have HR := Lib.hid hr
  clear hr
  go_enter Try.func52, Try.ntmps52
  go_wp2_with fail
  refine (clone_any A n c l w HR.out (by omega)).mono ?_
  rintro e w1 ⟨A1, n1, c1, rfl, ho1⟩
  have HO := Lib.hid ho1
  have hbw : w.heap.size ≤ w1.heap.size := ho1.below.size
  clear ho1
  go_wp2_with (first
    | (at_builtin; refine wpList_append_byte (w0 := w) w.heap.size (by rfl) (.tmp 10) (.tmp 12) (by rfl) _ _ l _ s (by rfl) (by rfl) HO.out.own (by rfl) (by omega) hbw HO.out.below ?_; intro A2 n2 c2 w2 hown2 hb2 hg2))
  have hbw2 : w.heap.size ≤ w2.heap.size := Nat.le_trans hbw hg2.size
  refine (long_any w.heap.size A2 n2 c2 (l ++ [s]) m many w w2 hm hmany hown2 hb2 hbw2 (by simp; omega)).mono ?_
  rintro e w3 ⟨A3, n3, c3, rfl, hown3, hb3⟩
  go_wp2_with fail
  go_ret
  exact RetB.mk hown3 hb3
theorem uint_any (A : Option Addr) (n c : Nat) (l : List UInt8) (m : Nat) (w : World) (hr : Reads w w.heap.size 1 A n (B8 l)) (hm : m < 18446744073709551616) (hl : l.length + 9 ≤ 140737488355328) :
    Calls Try.prog 29 #[.slice A n c, .int .u64 (m : Int)] w (RetB w (Cn.uint l m)) := by
  have HR := Lib.hid hr
  clear hr
  go_enter Try.func29, Try.ntmps29
  go_wp2_with fail
  refine (part_any A n c l 117 m 8 w HR.out hm (by omega) (by omega)).mono ?_
  rintro e w1 ⟨A1, n1, c1, rfl, ho1⟩
  go_wp2_with fail
  go_ret
  exact ⟨A1, n1, c1, rfl, ho1⟩

theorem bytes_any (A : Option Addr) (n c : Nat) (l : List UInt8) (A' : Option Addr) (n' c' : Nat) (b : List UInt8) (w : World) (hr : Reads w w.heap.size 1 A n (B8 l)) (hr' : Reads w w.heap.size 1 A' n' (B8 b)) (hl : l.length + 5 + b.length ≤ 140737488355328) :
    Calls Try.prog 31 #[.slice A n c, .slice A' n' c'] w (RetB w (Cn.bytes l b)) := by
  have hn' := hr'.bytes_length
  have hb' : n' ≤ 140737488355328 := by omega
  have HN := Lib.hid hn'
  have HR := Lib.hid hr
  have HR' := Lib.hid hr'
  clear hr hr' hn'
  go_enter Try.func31, Try.ntmps31
  go_wp2_with fail
  refine (part_any A n c l 98 n' 4 w HR.out (by omega) (by omega) (by omega)).mono ?_
  rintro e w1 ⟨A1, n1, c1, rfl, ho1⟩
  have HO := Lib.hid ho1
  have hbw : w.heap.size ≤ w1.heap.size := ho1.below.size
  clear ho1
  go_wp2_with (first
    | (at_builtin; refine wpList_append_bytes (w0 := w) w.heap.size (by rfl) (.tmp 9) (.tmp 10) (by rfl) _ _ (Cn.part l 98 n' 4) b (by rfl) HO.out.own A' n' c' (by rfl) w.heap.size (HR'.out.below HO.out.below) (by rw [Cn.part_length]; omega) hbw HO.out.below ?_; intro A2 n2 c2 w2 hown2 hb2 hg2))
  go_ret
  unfold Cn.bytes
  rw [HN.out]
  exact RetB.mk hown2 hb2

theorem text_any (A : Option Addr) (n c : Nat) (l : List UInt8) (s : ByteArray) (w : World) (hr : Reads w w.heap.size 1 A n (B8 l)) (hl : l.length + 5 + s.size ≤ 140737488355328) :
    Calls Try.prog 30 #[.slice A n c, .string s] w (RetB w (Cn.text l s.data.toList)) := by
  have hs : s.data.toList.length = s.size := by rw [Array.length_toList]; rfl
  have HN := Lib.hid hs
  have HR := Lib.hid hr
  clear hr hs
  go_enter Try.func30, Try.ntmps30
  go_wp2_with fail
  refine (part_any A n c l 115 s.size 4 w HR.out (by omega) (by omega) (by omega)).mono ?_
  rintro e w1 ⟨A1, n1, c1, rfl, ho1⟩
  have HO := Lib.hid ho1
  have hbw : w.heap.size ≤ w1.heap.size := ho1.below.size
  clear ho1
  go_wp2_with (first
    | (at_builtin; refine wpList_append_text (w0 := w) w.heap.size (by rfl) (.tmp 9) (.tmp 10) (by rfl) _ _ (Cn.part l 115 s.size 4) s (by rfl) HO.out.own (by rfl) (by rw [Cn.part_length]; omega) hbw HO.out.below ?_; intro A2 n2 c2 w2 hown2 hb2 hg2))
  go_ret
  unfold Cn.text
  rw [HN.out]
  exact RetB.mk hown2 hb2
end Go.Proofs.Ytjnakhgpenafdaa
/- steleref02's writers: what each hands back. -/
namespace Go.Proofs.Ytjnakhgpenafdaa
open Go.RowKit
set_option linter.unusedVariables false

theorem rlong_any (m many : Nat) (w : World) (hmany : many ≤ 8) :
    Calls Try.prog 54 #[.int .u64 (m : Int), .int .i64 (many : Int)] w (RetB w (Cn.be m many)) := by
  go_enter Try.func54, Try.ntmps54
  go_wp2
  go_loopw [5, 6] (fun v i wr => ∃ (k j : Nat) (A' : Option Addr) (c' : Nat), k ≤ many ∧ i = .int .i64 ((many : Int) - 1 - (k : Int)) ∧ v = .slice A' j c' ∧
      wr.ownsRow w.heap.size 5 1 (.slice A' j c') j (B8 ((Cn.be m many).take k)) ∧ Below w.heap.size w wr ∧ w.heap.size ≤ wr.heap.size)
    (fun _ i _ => (intOf i + 1).toNat)
  case atStart => exact ⟨0, 0, none, 0, by omega, by simp, rfl, World.ownsRow_nil _ _ _ _, Below.refl _ _, Nat.le_refl _⟩
  case round =>
    obtain ⟨k, j, A', c', hk, rfl, rfl, hown, hb, hbase⟩ := hrel
    by_cases hlt : k < many
    · have HE := Lib.hid (Cn.be_take m many k hlt)
      have hj2 : ((Cn.be m many).take k).length < 140737488355328 := by rw [List.length_take, Cn.be_length]; omega
      go_wp2_with (first
        | (at_builtin; refine wpList_append_byte (w0 := w) w.heap.size (by rfl) (.tmp 13) (.tmp 20) (by rfl) _ j ((Cn.be m many).take k) _ (Cn.byte (m / 2 ^ (8 * (many - 1 - k)))) (Cn.byte_div _ _) (by rfl) hown (by rfl) hj2 hbase hb ?_; intro A1 n1 c1 w1 hown1 hb1 hg1))
      go_roundw
      case rel => exact ⟨k + 1, n1, A1, c1, hlt, by go_num, rfl, by rw [HE.out]; exact hown1, hb1, Nat.le_trans hbase hg1.size⟩
      case measure => simp [intOf]; omega
    · obtain rfl : k = many := by omega
      rw [Cn.be_all] at hown
      go_wp2_with fail
      go_ret
      exact RetB.mk hown hb

theorem rjoin_any (A : Option Addr) (n c : Nat) (l : List UInt8) (A' : Option Addr) (n' c' : Nat) (b : List UInt8) (w : World) (hr : Reads w w.heap.size 1 A n (B8 l)) (hr' : Reads w w.heap.size 1 A' n' (B8 b)) (hl : l.length + b.length ≤ 140737488355328) :
    Calls Try.prog 53 #[.slice A n c, .slice A' n' c'] w (RetB w (l ++ b)) := by
  have HR := Lib.hid hr
  have HR' := Lib.hid hr'
  clear hr hr'
  go_enter Try.func53, Try.ntmps53
  go_wp2_with (first
    | (at_builtin; refine wpList_append_bytes (w0 := w) w.heap.size (by rfl) (.tmp 5) (.tmp 6) (by rfl) _ 0 [] l (by rfl) (own_empty _ _ (Nat.le_refl _)) A n c (by rfl) w.heap.size (HR.out.alloc (Nat.le_refl _) _) (by simp; omega) (by simp) ((Below.refl _ _).alloc (Nat.le_refl _) _) ?_; intro A1 n1 c1 w1 hown1 hb1 hg1; have hbw : w.heap.size ≤ w1.heap.size := hb1.size)
    | (at_builtin; refine wpList_append_bytes (w0 := w) w.heap.size (by rfl) (.tmp 7) (.tmp 8) (by rfl) _ n1 ([] ++ l) b (by rfl) hown1 A' n' c' (by rfl) w.heap.size (HR'.out.below hb1) (by simp; omega) hbw hb1 ?_; intro A2 n2 c2 w2 hown2 hb2 hg2))
  go_ret
  exact RetB.mk hown2 hb2
theorem Reads.nil_bytes (w : World) (B c : Nat) : Reads w B 1 none 0 (B8 []) := Reads.none_
theorem ruint_any (A : Option Addr) (n c : Nat) (l : List UInt8) (m : Nat) (w : World) (hr : Reads w w.heap.size 1 A n (B8 l)) (hl : l.length + 9 ≤ 140737488355328) :
    Calls Try.prog 32 #[.slice A n c, .int .u64 (m : Int)] w (RetB w (Cn.uint l m)) := by
  have HR := Lib.hid hr
  clear hr
  go_enter Try.func32, Try.ntmps32
  go_wp2_with fail
  refine (rjoin_any A n c l none 0 0 [] w HR.out (Reads.none_) (by simp; omega)).mono ?_
  rintro e w1 ⟨A1, n1, c1, rfl, ho1⟩
  rw [List.append_nil] at ho1
  have HO := Lib.hid ho1
  have hbw : w.heap.size ≤ w1.heap.size := ho1.below.size
  clear ho1
  go_wp2_with (first
    | (at_builtin; refine wpList_append_byte (w0 := w) w.heap.size (by rfl) (.tmp 6) (.tmp 7) (by rfl) _ _ l _ 117 (by rfl) (by rfl) HO.out.own (by rfl) (by omega) hbw HO.out.below ?_; intro A2 n2 c2 w2 hown2 hb2 hg2))
  have hbw2 : w.heap.size ≤ w2.heap.size := hb2.size
  refine (rlong_any m 8 w2 (by omega)).mono ?_
  rintro e w3 ⟨A3, n3, c3, rfl, ho3⟩
  have hr2 := ((Reads.of_own hown2).below ho3.below).more ho3.below.size
  have HR2 := Lib.hid hr2
  have HO3 := Lib.hid ho3
  have hbw3 : w2.heap.size ≤ w3.heap.size := ho3.below.size
  have hb3 : Below w.heap.size w w3 := hb2.trans (ho3.below.mono hbw2)
  clear ho3 hr2 hown2
  go_wp2_with fail
  refine (rjoin_any A2 n2 c2 (l ++ [117]) A3 n3 c3 (Cn.be m 8) w3 HR2.out HO3.out.reads (by simp [Cn.be_length]; omega)).mono ?_
  rintro e w4 ⟨A4, n4, c4, rfl, ho4⟩
  have HO4 := Lib.hid ho4
  clear ho4
  go_wp2_with fail
  go_ret
  exact RetB.of_call hb3 HO4.out

theorem rbytes_any (A : Option Addr) (n c : Nat) (l : List UInt8) (A' : Option Addr) (n' c' : Nat) (b : List UInt8) (w : World) (hr : Reads w w.heap.size 1 A n (B8 l)) (hr' : Reads w w.heap.size 1 A' n' (B8 b)) (hl : l.length + 5 + b.length ≤ 140737488355328) :
    Calls Try.prog 34 #[.slice A n c, .slice A' n' c'] w (RetB w (Cn.bytes l b)) := by
  have hn' := hr'.bytes_length
  have hb' : n' ≤ 140737488355328 := by omega
  have HN := Lib.hid hn'
  have HR := Lib.hid hr
  have HR' := Lib.hid hr'
  clear hr hr' hn'
  go_enter Try.func34, Try.ntmps34
  go_wp2_with fail
  refine (rjoin_any A n c l none 0 0 [] w HR.out (Reads.none_) (by simp; omega)).mono ?_
  rintro e w1 ⟨A1, n1, c1, rfl, ho1⟩
  rw [List.append_nil] at ho1
  have HO := Lib.hid ho1
  have hbw : w.heap.size ≤ w1.heap.size := ho1.below.size
  clear ho1
  go_wp2_with (first
    | (at_builtin; refine wpList_append_byte (w0 := w) w.heap.size (by rfl) (.tmp 6) (.tmp 7) (by rfl) _ _ l _ 98 (by rfl) (by rfl) HO.out.own (by rfl) (by omega) hbw HO.out.below ?_; intro A2 n2 c2 w2 hown2 hb2 hg2))
  have hbw2 : w.heap.size ≤ w2.heap.size := hb2.size
  refine (rlong_any n' 4 w2 (by omega)).mono ?_
  rintro e w3 ⟨A3, n3, c3, rfl, ho3⟩
  have HR2 := Lib.hid ((Reads.of_own hown2).up ho3.below)
  have HO3 := Lib.hid ho3
  have hb3 : Below w.heap.size w w3 := below_then hb2 ho3.below
  have HB3 := Lib.hid hb3
  clear ho3 hown2 hb3
  go_wp2_with fail
  refine (rjoin_any A2 n2 c2 (l ++ [98]) A3 n3 c3 (Cn.be n' 4) w3 HR2.out HO3.out.reads (by simp [Cn.be_length]; omega)).mono ?_
  rintro e w4 ⟨A4, n4, c4, rfl, ho4⟩
  have HO4 := Lib.hid ho4
  have hb4 : Below w.heap.size w w4 := below_then HB3.out ho4.below
  have HB4 := Lib.hid hb4
  clear ho4 hb4
  go_wp2_with fail
  refine (rjoin_any A4 n4 c4 (l ++ [98] ++ Cn.be n' 4) A' n' c' b w4 HO4.out.reads (HR'.out.up HB4.out) (by simp [Cn.be_length]; omega)).mono ?_
  rintro e w5 ⟨A5, n5, c5, rfl, ho5⟩
  have HO5 := Lib.hid ho5
  clear ho5
  go_wp2_with fail
  go_ret
  unfold Cn.bytes Cn.part
  rw [HN.out]
  exact RetB.of_call HB4.out HO5.out

theorem rtext_any (A : Option Addr) (n c : Nat) (l : List UInt8) (s : ByteArray) (w : World) (hr : Reads w w.heap.size 1 A n (B8 l)) (hl : l.length + 5 + s.size ≤ 140737488355328) :
    Calls Try.prog 33 #[.slice A n c, .string s] w (RetB w (Cn.text l s.data.toList)) := by
  have hs : s.data.toList.length = s.size := by rw [Array.length_toList]; rfl
  have HN := Lib.hid hs
  have HR := Lib.hid hr
  clear hr hs
  go_enter Try.func33, Try.ntmps33
  go_wp2_with fail
  refine (rjoin_any A n c l none 0 0 [] w HR.out (Reads.none_) (by simp; omega)).mono ?_
  rintro e w1 ⟨A1, n1, c1, rfl, ho1⟩
  rw [List.append_nil] at ho1
  have HO := Lib.hid ho1
  have hbw : w.heap.size ≤ w1.heap.size := ho1.below.size
  clear ho1
  go_wp2_with (first
    | (at_builtin; refine wpList_append_byte (w0 := w) w.heap.size (by rfl) (.tmp 6) (.tmp 7) (by rfl) _ _ l _ 115 (by rfl) (by rfl) HO.out.own (by rfl) (by omega) hbw HO.out.below ?_; intro A2 n2 c2 w2 hown2 hb2 hg2))
  have hbw2 : w.heap.size ≤ w2.heap.size := hb2.size
  refine (rlong_any s.size 4 w2 (by omega)).mono ?_
  rintro e w3 ⟨A3, n3, c3, rfl, ho3⟩
  have HR2 := Lib.hid ((Reads.of_own hown2).up ho3.below)
  have HO3 := Lib.hid ho3
  have hb3 : Below w.heap.size w w3 := below_then hb2 ho3.below
  have HB3 := Lib.hid hb3
  clear ho3 hown2 hb3
  go_wp2_with fail
  refine (rjoin_any A2 n2 c2 (l ++ [115]) A3 n3 c3 (Cn.be s.size 4) w3 HR2.out HO3.out.reads (by simp [Cn.be_length]; omega)).mono ?_
  rintro e w4 ⟨A4, n4, c4, rfl, ho4⟩
  have HO4 := Lib.hid ho4
  have hb4 : Below w.heap.size w w4 := below_then HB3.out ho4.below
  have HB4 := Lib.hid hb4
  clear ho4 hb4
  go_wp2_with (refine wpList_bytes_text (w0 := w4) w4.heap.size (by rfl) (.tmp 14) (by rfl) s (by rfl) (Nat.le_refl _) (Below.refl _ _) ?_; intro A5 n5 c5 w5 hr5 hb5 hb5')
  refine (rjoin_any A4 n4 c4 (l ++ [115] ++ Cn.be s.size 4) A5 n5 c5 s.data.toList w5 (HO4.out.reads.up hb5') hr5 (by have := HN.out; simp [Cn.be_length]; omega)).mono ?_
  rintro e w6 ⟨A6, n6, c6, rfl, ho6⟩
  have HO6 := Lib.hid ho6
  clear ho6
  go_wp2_with fail
  go_ret
  unfold Cn.text Cn.part
  rw [HN.out]
  exact RetB.of_call (below_then HB4.out hb5) HO6.out
end Go.Proofs.Ytjnakhgpenafdaa
