/- Kinds of Go data as they lie in memory, and what keeps them: the words of all contracts of this seat. A region that draws its order, walked in one order: under a condition on the world that holds till its last store. Rows that a call makes for itself: what they hold, and what an append or a make does to them. Contracts: rows copied into memory of their own. Contracts of the functions that only read: rows of whole numbers held against one another, integers looked at. Contracts of the functions that only read, more: whether an integer may be, numerals, truths. -/
import Derived.Test.YtfpmapbimhdafaaGreatDoorProg
import Derived.WalkKit
import Derived.WalkSpells
import Derived.WalkLawsBesides
import Derived.BigQuiet
import Derived.Deep.QuietTactic
import Derived.Deep.Draws
import Derived.Deep.RegionHeld3
import Derived.Deep.AppendLies
import Derived.Maps.AppendAt
import Derived.Lib.Hide
import Derived.KernelRfl
import Derived.OpenShut
import Derived.Deep.RegionLaw
import Derived.Deep.CutRange
namespace Go.Proofs.YtfpmapbimhdafaaGreatDoor
open Go.RowKit
set_option linter.unusedVariables false
set_option linter.unusedSimpArgs false

/-- What stood in w, but for the blocks of O, stands as it was. -/
structure Ext (O : Nat → Prop) (w w' : World) : Prop where
  os : w'.os = w.os
  tape : w'.tape = w.tape
  output : w'.output = w.output
  size : w.heap.size ≤ w'.heap.size
  block : ∀ b, b < w.heap.size → ¬ O b → w'.heap[b]? = w.heap[b]?

/-- No block at all. -/
def NoB : Nat → Prop := fun _ => False

theorem Ext.refl (O : Nat → Prop) (w : World) : Ext O w w := ⟨rfl, rfl, rfl, Nat.le_refl _, fun _ _ _ => rfl⟩
theorem Ext.trans {O : Nat → Prop} {a b c : World} (h : Ext O a b) (k : Ext O b c) : Ext O a c :=
  ⟨k.os.trans h.os, k.tape.trans h.tape, k.output.trans h.output, Nat.le_trans h.size k.size, fun i hi ho => (k.block i (Nat.lt_of_lt_of_le hi h.size) ho).trans (h.block i hi ho)⟩
theorem Ext.mono {O O' : Nat → Prop} {a b : World} (h : Ext O a b) (ho : ∀ i, i < a.heap.size → O i → O' i) : Ext O' a b :=
  ⟨h.os, h.tape, h.output, h.size, fun i hi hn => h.block i hi fun hO => hn (ho i hi hO)⟩
/-- What is new, or of O, may turn behind. -/
theorem Ext.then {O O' : Nat → Prop} {a b c : World} (h : Ext O a b) (k : Ext O' b c) (ho : ∀ i, i < a.heap.size → O' i → O i) : Ext O a c :=
  ⟨k.os.trans h.os, k.tape.trans h.tape, k.output.trans h.output, Nat.le_trans h.size k.size, fun i hi hn => (k.block i (Nat.lt_of_lt_of_le hi h.size) fun hO => hn (ho i hi hO)).trans (h.block i hi hn)⟩
theorem Ext.no {O : Nat → Prop} {a b : World} (h : Ext NoB a b) : Ext O a b := h.mono fun _ _ h => h.elim
theorem Ext.thenNo {O : Nat → Prop} {a b c : World} (h : Ext O a b) (k : Ext NoB b c) : Ext O a c := h.trans k.no
theorem Ext.drew {O : Nat → Prop} {a w : World} (h : Ext O a w) : Ext O a w.drew := ⟨h.os, h.tape, h.output, h.size, h.block⟩
theorem Ext.drewN {O : Nat → Prop} {a w : World} (h : Ext O a w) (n : Nat) : Ext O a (w.drewN n) := ⟨h.os, h.tape, h.output, h.size, h.block⟩
theorem Ext.alloc {O : Nat → Prop} {a w : World} (h : Ext O a w) (o : Obj) : Ext O a (w.alloc o) :=
  h.trans ⟨rfl, rfl, rfl, by simp, fun k hk _ => Below.heap_alloc _ _ _ hk⟩
theorem Ext.setNew {O : Nat → Prop} {a w : World} (h : Ext O a w) {p : Addr} (hp : a.heap.size ≤ p.block) (u : Value) : Ext O a (w.setCell p u) :=
  ⟨h.os, h.tape, h.output, by simpa [World.setCell] using h.size, fun k hk hn => (Below.heap_setCell _ _ _ _ (by omega)).trans (h.block k hk hn)⟩
theorem Ext.setO {O : Nat → Prop} {a w : World} (h : Ext O a w) {p : Addr} (hp : O p.block) (u : Value) : Ext O a (w.setCell p u) :=
  ⟨h.os, h.tape, h.output, by simpa [World.setCell] using h.size, fun k hk hn => (Below.heap_setCell _ _ _ _ (fun e => hn (by rw [e]; exact hp))).trans (h.block k hk hn)⟩
theorem Ext.grown {O : Nat → Prop} {a w w' : World} {row : Option Nat} (h : Ext O a w) (hg : w.grownBy w' row) (hr : ∀ k, row = some k → a.heap.size ≤ k ∨ O k) : Ext O a w' :=
  ⟨hg.os.trans h.os, hg.tape.trans h.tape, hg.output.trans h.output, Nat.le_trans h.size hg.size, fun k hk hn => (hg.block k (Nat.lt_of_lt_of_le hk h.size) fun e => by
    rcases hr k e.symm with h1 | h1
    · omega
    · exact hn h1).trans (h.block k hk hn)⟩
theorem Ext.ofBelow {a w : World} (h : Below a.heap.size a w) : Ext NoB a w := ⟨h.os, h.tape, h.output, h.size, fun k hk _ => h.block k hk⟩
theorem Ext.below {a w : World} (h : Ext NoB a w) : Below a.heap.size a w := ⟨h.os, h.tape, h.output, h.size, fun k hk => h.block k hk fun h => h⟩
theorem Ext.heap {O : Nat → Prop} {a w : World} (h : Ext O a w) {b : Nat} {o : Obj} (hb : a.heap[b]? = some o) (hn : ¬ O b) : w.heap[b]? = some o :=
  (h.block b (Array.getElem?_eq_some_iff.1 hb).1 hn).trans hb
theorem cell_lt {w : World} {a : Addr} {v : Value} (h : w.cell? a = some v) : a.block < w.heap.size := World.block_lt_of_cell? w a h
theorem Ext.cell {O : Nat → Prop} {a w : World} (h : Ext O a w) {p : Addr} {v : Value} (hc : a.cell? p = some v) (hn : ¬ O p.block) : w.cell? p = some v :=
  (World.cell?_of_block (w := a) (h.block p.block (cell_lt hc) hn)).trans hc
theorem Ext.frozen {O : Nat → Prop} {a w : World} (h : Ext O a w) {p : Addr} (hl : p.block < a.heap.size) (hn : ¬ O p.block) : w.frozen? p = a.frozen? p :=
  World.frozen?_of_block (w := a) (h.block p.block hl hn)

/-- A kind of data: of how many cells, and which cells stand for a thing, no block of O being met. -/
structure Kd (α : Type) where
  size : Nat
  rep : World → (Nat → Prop) → α → List Value → Prop
  len : ∀ {w O x cs}, rep w O x cs → cs.length = size
  ones : ∀ {w O x cs}, rep w O x cs → ∀ u ∈ cs, u.oneCell' = true
  keep : ∀ {w w' O O' x cs}, rep w O x cs → (∀ b, b < w.heap.size → ¬ O b → ¬ O' b ∧ w'.heap[b]? = w.heap[b]?) → rep w' O' x cs

theorem Kd.ext {α : Type} (k : Kd α) {w w' : World} {O : Nat → Prop} {x : α} {cs : List Value} (h : k.rep w O x cs) (he : Ext O w w') : k.rep w' O x cs :=
  k.keep h fun b hb hn => ⟨hn, he.block b hb hn⟩
theorem Kd.extNo {α : Type} (k : Kd α) {w w' : World} {O : Nat → Prop} {x : α} {cs : List Value} (h : k.rep w O x cs) (he : Ext NoB w w') : k.rep w' O x cs := k.ext h he.no
/-- O grows by new blocks, or gives some up. -/
theorem Kd.turn {α : Type} (k : Kd α) {w : World} {O O' : Nat → Prop} {x : α} {cs : List Value} (h : k.rep w O x cs) (ho : ∀ b, b < w.heap.size → O' b → O b) : k.rep w O' x cs :=
  k.keep h fun b hb hn => ⟨fun h => hn (ho b hb h), rfl⟩
theorem Kd.move {α : Type} (k : Kd α) {w w' : World} {O O' : Nat → Prop} {x : α} {cs : List Value} (h : k.rep w O x cs) (he : Ext O w w') (ho : ∀ b, b < w.heap.size → O' b → O b) : k.rep w' O' x cs :=
  k.keep h fun b hb hn => ⟨fun h => hn (ho b hb h), he.block b hb hn⟩

def Kd.int (ik : IntKind) : Kd Int where
  size := 1
  rep _ _ x cs := cs = [.int ik x] ∧ (Lit.int ik x).wf = true
  len h := by rw [h.1]; rfl
  ones h := by rw [h.1]; simp [Value.oneCell']
  keep h _ := h
def Kd.bool : Kd Bool where
  size := 1
  rep _ _ x cs := cs = [.bool x]
  len h := by rw [h]; rfl
  ones h := by rw [h]; simp [Value.oneCell']
  keep h _ := h
def Kd.str : Kd ByteArray where
  size := 1
  rep _ _ x cs := cs = [.string x] ∧ x.size ≤ maxLen
  len h := by rw [h.1]; rfl
  ones h := by rw [h.1]; simp [Value.oneCell']
  keep h _ := h

/-- The elements of a row, at a block's place. -/
def Kd.row {α : Type} (e : Kd α) (w : World) (O : Nat → Prop) (b off : Nat) (xs : List α) : Prop :=
  ∀ (i : Nat) (x : α), xs[i]? = some x → ∃ cs, e.rep w O x cs ∧ ∀ (j : Nat) (v : Value), cs[j]? = some v → w.cell? ⟨b, off + i * e.size + j, none⟩ = some v
def Kd.slice {α : Type} (e : Kd α) (pos : 0 < e.size) : Kd (List α) where
  size := 1
  rep w O xs cs := ∃ A c, cs = [.slice A xs.length c] ∧ xs.length ≤ c ∧ c ≤ maxLen ∧ (xs ≠ [] → ∃ b off, A = some ⟨b, off, none⟩ ∧ ¬ O b ∧ e.row w O b off xs)
  len := by rintro w O xs cs ⟨A, c, rfl, _⟩; rfl
  ones := by rintro w O xs cs ⟨A, c, rfl, _⟩; simp [Value.oneCell']
  keep := by
    rintro w w' O O' xs cs ⟨A, c, rfl, h1, h2, h3⟩ hk
    refine ⟨A, c, rfl, h1, h2, fun hne => ?_⟩
    obtain ⟨b, off, hA, hb, hr⟩ := h3 hne
    have hlt : b < w.heap.size := by
      obtain ⟨x, l, rfl⟩ := List.exists_cons_of_ne_nil hne
      obtain ⟨cs, hcs, hc⟩ := hr 0 x rfl
      have hl := e.len hcs
      obtain ⟨v, l', rfl⟩ := List.exists_cons_of_length_pos (by omega : 0 < cs.length)
      exact cell_lt (hc 0 v rfl)
    refine ⟨b, off, hA, (hk b hlt hb).1, fun i x hx => ?_⟩
    obtain ⟨cs, hcs, hc⟩ := hr i x hx
    exact ⟨cs, e.keep hcs hk, fun j v hj => (World.cell?_of_block (w := w) (a := ⟨b, _, none⟩) (hk b hlt hb).2).trans (hc j v hj)⟩
def Kd.pair {α β : Type} (a : Kd α) (b : Kd β) : Kd (α × β) where
  size := a.size + b.size
  rep w O x cs := ∃ c1 c2, cs = c1 ++ c2 ∧ a.rep w O x.1 c1 ∧ b.rep w O x.2 c2
  len := by rintro w O x cs ⟨c1, c2, rfl, h1, h2⟩; rw [List.length_append, a.len h1, b.len h2]
  ones := by
    rintro w O x cs ⟨c1, c2, rfl, h1, h2⟩ u hu
    exact (List.mem_append.1 hu).elim (a.ones h1 u) (b.ones h2 u)
  keep := by rintro w w' O O' x cs ⟨c1, c2, rfl, h1, h2⟩ hk; exact ⟨c1, c2, rfl, a.keep h1 hk, b.keep h2 hk⟩
def Kd.via {α β : Type} (a : Kd α) (f : β → α) : Kd β where
  size := a.size
  rep w O x cs := a.rep w O (f x) cs
  len h := a.len h
  ones h := a.ones h
  keep h hk := a.keep h hk

/-- The slices of the program. -/
abbrev kInt : Kd Int := Kd.int .i64
abbrev kInts : Kd (List Int) := Kd.slice (Kd.int .i64) Nat.one_pos
abbrev kDigs : Kd (List Int) := Kd.slice (Kd.int .u32) Nat.one_pos
abbrev kBools : Kd (List Bool) := Kd.slice Kd.bool Nat.one_pos

/-- api.Int -/
structure ZInt where
  neg : Bool
  digs : List Int
  deriving DecidableEq
def kZ : Kd ZInt := (Kd.bool.pair kDigs).via fun x => (x.neg, x.digs)
abbrev kZs : Kd (List ZInt) := kZ.slice (by decide)
/-- collatorref01.Num -/
structure Num where
  neg : Bool
  d : List Int
  deriving DecidableEq
def kNum : Kd Num := (Kd.bool.pair kInts).via fun x => (x.neg, x.d)
abbrev kNums : Kd (List Num) := kNum.slice (by decide)
structure Srt where
  name : ByteArray
  args : List Int
def kSrt : Kd Srt := (Kd.str.pair kInts).via fun x => (x.name, x.args)
abbrev kSrts : Kd (List Srt) := kSrt.slice (by decide)
structure Fun where
  name : ByteArray
  args : List Int
  result : Int
def kFun : Kd Fun := (Kd.str.pair (kInts.pair kInt)).via fun x => (x.name, x.args, x.result)
abbrev kFuns : Kd (List Fun) := kFun.slice (by decide)
structure Term where
  op : Int
  fn : Int
  kids : List Int
  num : ByteArray
def kTerm : Kd Term := (kInt.pair (kInt.pair (kInts.pair Kd.str))).via fun x => (x.op, x.fn, x.kids, x.num)
abbrev kTerms : Kd (List Term) := kTerm.slice (by decide)
structure Cmd where
  kind : Int
  n : Int
  name : ByteArray
  fn : Int
  term : Int
def kCmd : Kd Cmd := (kInt.pair (kInt.pair (Kd.str.pair (kInt.pair kInt)))).via fun x => (x.kind, x.n, x.name, x.fn, x.term)
abbrev kCmds : Kd (List Cmd) := kCmd.slice (by decide)
structure Dump where
  sorts : List Srt
  funs : List Fun
  terms : List Term
  cmds : List Cmd
def kDump : Kd Dump := (kSrts.pair (kFuns.pair (kTerms.pair kCmds))).via fun x => (x.sorts, x.funs, x.terms, x.cmds)
/-- api.Row, api.Table, api.Model -/
structure TRow where
  args : List ZInt
  value : ZInt
def kRow : Kd TRow := (kZs.pair kZ).via fun x => (x.args, x.value)
abbrev kRows : Kd (List TRow) := kRow.slice (by decide)
structure Table where
  rows : List TRow
  els : ZInt
def kTable : Kd Table := (kRows.pair kZ).via fun x => (x.rows, x.els)
abbrev kTables : Kd (List Table) := kTable.slice (by decide)
structure Model where
  sizes : List Int
  funs : List Table
def kModel : Kd Model := (kInts.pair kTables).via fun x => (x.sizes, x.funs)

/-- Draws alone. -/
def Dr (w w' : World) : Prop := ∃ n, w' = w.drewN n
theorem Dr.refl (w : World) : Dr w w := ⟨0, rfl⟩
theorem Dr.n (w : World) (n : Nat) : Dr w (w.drewN n) := ⟨n, rfl⟩
theorem Dr.nn (w : World) (n m : Nat) : Dr w ((w.drewN n).drewN m) := ⟨_, World.drewN_drewN ..⟩
theorem Dr.step {a b : World} (h : Dr a b) (n : Nat) : Dr a (b.drewN n) := by
  obtain ⟨m, rfl⟩ := h
  exact ⟨_, World.drewN_drewN ..⟩
theorem Dr.trans {a b c : World} (h : Dr a b) (k : Dr b c) : Dr a c := by
  obtain ⟨m, rfl⟩ := k
  exact h.step m
theorem Dr.ext {O : Nat → Prop} {a b : World} (h : Dr a b) : Ext O a b := by
  obtain ⟨n, rfl⟩ := h
  exact (Ext.refl _ _).drewN n
theorem retB {a b : Bool} (h : a = b) : Ending.returned (.bool a) = Ending.returned (.bool b) := by rw [h]
theorem retI {k : IntKind} {a b : Int} (h : a = b) : Ending.returned (.int k a) = Ending.returned (.int k b) := by rw [h]

/-- The k-th number of a list; the walk doesn't look into it. -/
def rdI (xs : List Int) (k : Nat) : Int := xs.getD k 0
theorem rdI_eq {xs : List Int} {k : Nat} (h : k < xs.length) : rdI xs k = xs[k] := by simp [rdI, List.getD_eq_getElem?_getD, List.getElem?_eq_getElem h]

/-! What a value of one cell, or a struct's, stands for. -/
/-- A value of one cell. -/
def Kd.one {α : Type} (k : Kd α) (w : World) (O : Nat → Prop) (x : α) (v : Value) : Prop := k.rep w O x [v]
/-- A struct's value. -/
def Kd.agg {α : Type} (k : Kd α) (w : World) (O : Nat → Prop) (x : α) (v : Value) : Prop := ∃ cs : List Value, v = .agg cs.toArray ∧ k.rep w O x cs

theorem Kd.aggExt {α : Type} (k : Kd α) {w w' : World} {O : Nat → Prop} {x : α} {v : Value} (h : k.agg w O x v) (he : Ext O w w') : k.agg w' O x v := by
  obtain ⟨cs, rfl, h⟩ := h
  exact ⟨cs, rfl, k.ext h he⟩
theorem Kd.oneExt {α : Type} (k : Kd α) {w w' : World} {O : Nat → Prop} {x : α} {v : Value} (h : k.one w O x v) (he : Ext O w w') : k.one w' O x v := k.ext h he

/-- O, and one block more. -/
def Plus (O : Nat → Prop) (g : Nat) : Nat → Prop := fun i => O i ∨ i = g
theorem Plus.here (O : Nat → Prop) (g : Nat) : Plus O g g := .inr rfl
theorem Kd.aggKeep {α : Type} (k : Kd α) {w w' : World} {O O' : Nat → Prop} {x : α} {v : Value} (h : k.agg w O x v) (he : Ext O w w') (ho : ∀ b, b < w.heap.size → O' b → O b) : k.agg w' O' x v := by
  obtain ⟨cs, rfl, h⟩ := h
  exact ⟨cs, rfl, k.move h he ho⟩
theorem Kd.oneKeep {α : Type} (k : Kd α) {w w' : World} {O O' : Nat → Prop} {x : α} {v : Value} (h : k.one w O x v) (he : Ext O w w') (ho : ∀ b, b < w.heap.size → O' b → O b) : k.one w' O' x v := k.move h he ho
/-- A new block g is no part of what was there. -/
theorem Kd.onePlus {α : Type} (k : Kd α) {w w' : World} {O : Nat → Prop} {x : α} {v : Value} (h : k.one w O x v) (he : Ext O w w') {g : Nat} (hg : w.heap.size ≤ g) : k.one w' (Plus O g) x v :=
  k.oneKeep h he fun b hb h => h.elim id fun e => by omega
theorem Kd.aggPlus {α : Type} (k : Kd α) {w w' : World} {O : Nat → Prop} {x : α} {v : Value} (h : k.agg w O x v) (he : Ext O w w') {g : Nat} (hg : w.heap.size ≤ g) : k.agg w' (Plus O g) x v :=
  k.aggKeep h he fun b hb h => h.elim id fun e => by omega
theorem Ext.swap (O : Nat → Prop) (w : World) (x y : Obj) : Ext (Plus O w.heap.size) (w.alloc x) (w.alloc y) :=
  ⟨rfl, rfl, rfl, by simp, fun b hb hn => by
    have hlt : b < w.heap.size := by
      have hne : b ≠ w.heap.size := fun e => hn (.inr e)
      simp at hb
      omega
    rw [Below.heap_alloc w y b hlt, Below.heap_alloc w x b hlt]⟩
theorem Kd.oneMinus {α : Type} (k : Kd α) {w w' : World} {O : Nat → Prop} {g : Nat} {x : α} {v : Value} (h : k.one w (Plus O g) x v) (he : Ext (Plus O g) w w') : k.one w' O x v := k.oneKeep h he fun _ _ h => .inl h
theorem Kd.aggMinus {α : Type} (k : Kd α) {w w' : World} {O : Nat → Prop} {g : Nat} {x : α} {v : Value} (h : k.agg w (Plus O g) x v) (he : Ext (Plus O g) w w') : k.agg w' O x v := k.aggKeep h he fun _ _ h => .inl h

theorem Kd.one_slice {α : Type} {e : Kd α} {pos : 0 < e.size} {w : World} {O : Nat → Prop} {xs : List α} {v : Value} (h : (e.slice pos).one w O xs v) :
    ∃ A c, v = .slice A xs.length c ∧ xs.length ≤ c ∧ c ≤ maxLen ∧ (xs ≠ [] → ∃ b off, A = some ⟨b, off, none⟩ ∧ ¬ O b ∧ e.row w O b off xs) := by
  obtain ⟨A, c, h1, h2⟩ := h
  exact ⟨A, c, by simpa using h1, h2⟩
theorem Kd.slice_mk {α : Type} {e : Kd α} {pos : 0 < e.size} {w : World} {O : Nat → Prop} {xs : List α} {A : Option Addr} {c : Nat} (h1 : xs.length ≤ c) (h2 : c ≤ maxLen)
    (h3 : xs ≠ [] → ∃ b off, A = some ⟨b, off, none⟩ ∧ ¬ O b ∧ e.row w O b off xs) : (e.slice pos).one w O xs (.slice A xs.length c) := ⟨A, c, rfl, h1, h2, h3⟩
theorem Kd.nil_mk {α : Type} {e : Kd α} {pos : 0 < e.size} {w : World} {O : Nat → Prop} : (e.slice pos).one w O [] (.slice none 0 0) := ⟨none, 0, rfl, Nat.le_refl _, by simp [maxLen], fun h => absurd rfl h⟩

/-! Each kind opened and shut. -/
section
variable {w : World} {O : Nat → Prop}
theorem pair_iff {α β : Type} {a : Kd α} {b : Kd β} {x : α × β} {cs : List Value} : (a.pair b).rep w O x cs ↔ ∃ c1 c2, cs = c1 ++ c2 ∧ a.rep w O x.1 c1 ∧ b.rep w O x.2 c2 := Iff.rfl
theorem slice_cells {α : Type} {e : Kd α} {pos : 0 < e.size} {xs : List α} {cs : List Value} : (e.slice pos).rep w O xs cs ↔ ∃ v, cs = [v] ∧ (e.slice pos).one w O xs v := by
  constructor
  · intro h
    have h0 := h
    obtain ⟨A, c, rfl, _⟩ := h0
    exact ⟨_, rfl, h⟩
  · rintro ⟨v, rfl, h⟩
    exact h
theorem int_cells {ik : IntKind} {x : Int} {cs : List Value} : (Kd.int ik).rep w O x cs ↔ cs = [.int ik x] ∧ (Lit.int ik x).wf = true := Iff.rfl
theorem str_cells {x : ByteArray} {cs : List Value} : Kd.str.rep w O x cs ↔ cs = [.string x] ∧ x.size ≤ maxLen := Iff.rfl
theorem bool_cells {x : Bool} {cs : List Value} : Kd.bool.rep w O x cs ↔ cs = [.bool x] := Iff.rfl

theorem kZ_iff {x : ZInt} {cs : List Value} : kZ.rep w O x cs ↔ ∃ v, cs = [.bool x.neg, v] ∧ kDigs.one w O x.digs v := by
  constructor
  · rintro ⟨c1, c2, rfl, h1, h2⟩
    obtain ⟨v, rfl, h⟩ := slice_cells.1 h2
    exact ⟨v, by rw [bool_cells.1 h1]; rfl, h⟩
  · rintro ⟨v, rfl, h⟩
    exact ⟨[.bool x.neg], [v], rfl, rfl, h⟩
theorem kNum_iff {x : Num} {cs : List Value} : kNum.rep w O x cs ↔ ∃ v, cs = [.bool x.neg, v] ∧ kInts.one w O x.d v := by
  constructor
  · rintro ⟨c1, c2, rfl, h1, h2⟩
    obtain ⟨v, rfl, h⟩ := slice_cells.1 h2
    exact ⟨v, by rw [bool_cells.1 h1]; rfl, h⟩
  · rintro ⟨v, rfl, h⟩
    exact ⟨[.bool x.neg], [v], rfl, rfl, h⟩
theorem kSrt_iff {x : Srt} {cs : List Value} : kSrt.rep w O x cs ↔ ∃ v, cs = [.string x.name, v] ∧ x.name.size ≤ maxLen ∧ kInts.one w O x.args v := by
  constructor
  · rintro ⟨c1, c2, rfl, ⟨h0, h1⟩, h2⟩
    obtain ⟨v, rfl, h⟩ := slice_cells.1 h2
    exact ⟨v, by rw [h0]; rfl, h1, h⟩
  · rintro ⟨v, rfl, h1, h⟩
    exact ⟨[.string x.name], [v], rfl, ⟨rfl, h1⟩, h⟩
theorem kFun_iff {x : Fun} {cs : List Value} : kFun.rep w O x cs ↔ ∃ v, cs = [.string x.name, v, .int .i64 x.result] ∧ x.name.size ≤ maxLen ∧ kInts.one w O x.args v ∧ (Lit.int .i64 x.result).wf = true := by
  constructor
  · rintro ⟨c1, c2, rfl, ⟨h0, h1⟩, c3, c4, rfl, h2, h3, h4⟩
    obtain ⟨v, rfl, h⟩ := slice_cells.1 h2
    exact ⟨v, by rw [h0, h3]; rfl, h1, h, h4⟩
  · rintro ⟨v, rfl, h1, h, h2⟩
    exact ⟨[.string x.name], [v, .int .i64 x.result], rfl, ⟨rfl, h1⟩, [v], [.int .i64 x.result], rfl, h, rfl, h2⟩
theorem kTerm_iff {x : Term} {cs : List Value} : kTerm.rep w O x cs ↔ ∃ v, cs = [.int .i64 x.op, .int .i64 x.fn, v, .string x.num] ∧ (Lit.int .i64 x.op).wf = true ∧ (Lit.int .i64 x.fn).wf = true ∧ kInts.one w O x.kids v ∧ x.num.size ≤ maxLen := by
  constructor
  · rintro ⟨c1, c2, rfl, ⟨h0, h1⟩, c3, c4, rfl, ⟨h2, h3⟩, c5, c6, rfl, h4, h5, h6⟩
    obtain ⟨v, rfl, h⟩ := slice_cells.1 h4
    exact ⟨v, by rw [h0, h2, h5]; rfl, h1, h3, h, h6⟩
  · rintro ⟨v, rfl, h1, h2, h, h3⟩
    exact ⟨[.int .i64 x.op], _, rfl, ⟨rfl, h1⟩, [.int .i64 x.fn], _, rfl, ⟨rfl, h2⟩, [v], [.string x.num], rfl, h, rfl, h3⟩
theorem kCmd_iff {x : Cmd} {cs : List Value} : kCmd.rep w O x cs ↔ cs = [.int .i64 x.kind, .int .i64 x.n, .string x.name, .int .i64 x.fn, .int .i64 x.term] ∧ (Lit.int .i64 x.kind).wf = true ∧ (Lit.int .i64 x.n).wf = true ∧ x.name.size ≤ maxLen ∧ (Lit.int .i64 x.fn).wf = true ∧ (Lit.int .i64 x.term).wf = true := by
  constructor
  · rintro ⟨c1, c2, rfl, ⟨h0, h1⟩, c3, c4, rfl, ⟨h2, h3⟩, c5, c6, rfl, ⟨h4, h5⟩, c7, c8, rfl, ⟨h6, h7⟩, h8, h9⟩
    exact ⟨by rw [h0, h2, h4, h6, h8]; rfl, h1, h3, h5, h7, h9⟩
  · rintro ⟨rfl, h1, h2, h3, h4, h5⟩
    exact ⟨[.int .i64 x.kind], _, rfl, ⟨rfl, h1⟩, [.int .i64 x.n], _, rfl, ⟨rfl, h2⟩, [.string x.name], _, rfl, ⟨rfl, h3⟩, [.int .i64 x.fn], [.int .i64 x.term], rfl, ⟨rfl, h4⟩, rfl, h5⟩
theorem kDump_iff {x : Dump} {cs : List Value} : kDump.rep w O x cs ↔ ∃ v1 v2 v3 v4, cs = [v1, v2, v3, v4] ∧ kSrts.one w O x.sorts v1 ∧ kFuns.one w O x.funs v2 ∧ kTerms.one w O x.terms v3 ∧ kCmds.one w O x.cmds v4 := by
  constructor
  · rintro ⟨c1, c2, rfl, h1, c3, c4, rfl, h2, c5, c6, rfl, h3, h4⟩
    obtain ⟨v1, rfl, h1⟩ := slice_cells.1 h1
    obtain ⟨v2, rfl, h2⟩ := slice_cells.1 h2
    obtain ⟨v3, rfl, h3⟩ := slice_cells.1 h3
    obtain ⟨v4, rfl, h4⟩ := slice_cells.1 h4
    exact ⟨v1, v2, v3, v4, rfl, h1, h2, h3, h4⟩
  · rintro ⟨v1, v2, v3, v4, rfl, h1, h2, h3, h4⟩
    exact ⟨[v1], _, rfl, h1, [v2], _, rfl, h2, [v3], [v4], rfl, h3, h4⟩
theorem kRow_iff {x : TRow} {cs : List Value} : kRow.rep w O x cs ↔ ∃ v1 v2, cs = [v1, .bool x.value.neg, v2] ∧ kZs.one w O x.args v1 ∧ kDigs.one w O x.value.digs v2 := by
  constructor
  · rintro ⟨c1, c2, rfl, h1, h2⟩
    obtain ⟨v1, rfl, h1⟩ := slice_cells.1 h1
    obtain ⟨v2, rfl, h3⟩ := kZ_iff.1 h2
    exact ⟨v1, v2, rfl, h1, h3⟩
  · rintro ⟨v1, v2, rfl, h1, h2⟩
    exact ⟨[v1], _, rfl, h1, kZ_iff.2 ⟨v2, rfl, h2⟩⟩
theorem kTable_iff {x : Table} {cs : List Value} : kTable.rep w O x cs ↔ ∃ v1 v2, cs = [v1, .bool x.els.neg, v2] ∧ kRows.one w O x.rows v1 ∧ kDigs.one w O x.els.digs v2 := by
  constructor
  · rintro ⟨c1, c2, rfl, h1, h2⟩
    obtain ⟨v1, rfl, h1⟩ := slice_cells.1 h1
    obtain ⟨v2, rfl, h3⟩ := kZ_iff.1 h2
    exact ⟨v1, v2, rfl, h1, h3⟩
  · rintro ⟨v1, v2, rfl, h1, h2⟩
    exact ⟨[v1], _, rfl, h1, kZ_iff.2 ⟨v2, rfl, h2⟩⟩
theorem kModel_iff {x : Model} {cs : List Value} : kModel.rep w O x cs ↔ ∃ v1 v2, cs = [v1, v2] ∧ kInts.one w O x.sizes v1 ∧ kTables.one w O x.funs v2 := by
  constructor
  · rintro ⟨c1, c2, rfl, h1, h2⟩
    obtain ⟨v1, rfl, h1⟩ := slice_cells.1 h1
    obtain ⟨v2, rfl, h2⟩ := slice_cells.1 h2
    exact ⟨v1, v2, rfl, h1, h2⟩
  · rintro ⟨v1, v2, rfl, h1, h2⟩
    exact ⟨[v1], [v2], rfl, h1, h2⟩
end
end Go.Proofs.YtfpmapbimhdafaaGreatDoor

namespace Go.Proofs.YtfpmapbimhdafaaGreatDoor
open Go.RowKit
set_option linter.unusedVariables false
set_option linter.unusedSimpArgs false

section
variable {P : Program} {ops : Array Oper} {Q : Exit → Act → World → Prop} {md : Region.Mode} {S : World → Prop} {M : List Nat}

/-- Whatever order is picked from here on; each operation that is carried out, but those of M, leaves S as true as it was. -/
def wpM (P : Program) (md : Region.Mode) (ops : Array Oper) (Q : Exit → Act → World → Prop) (S : World → Prop) (M : List Nat) : Nat → Array Bool → Act → World → Prop
  | 0, listed, a, w => Region.ready md ops listed = [] ∧ Q .normal a w
  | fuel + 1, listed, a, w =>
    (Region.ready md ops listed = [] → Q .normal a w) ∧
    ∀ i ∈ Region.ready md ops listed, wpOp P ops Q i (fun a' w' => (i ∈ M ∨ (S w → S w')) ∧ wpM P md ops Q S M fuel (listed.setIfInBounds i true) a' w') a w
theorem wpAny_of_M : ∀ (fuel : Nat) (listed : Array Bool) (a : Act) (w : World), wpM P md ops Q S M fuel listed a w → wpAny P md ops Q fuel listed a w
  | 0, _, _, _, h => h
  | fuel + 1, _, _, _, h => ⟨h.1, fun i hi => wpOp_mono (fun a' w' h' => wpAny_of_M fuel _ a' w' h'.2) (h.2 i hi)⟩

/-- What waits for what has come up has come up with it. -/
def Closed (md : Region.Mode) (ops : Array Oper) (listed : Array Bool) : Prop :=
  ∀ (j : Nat) (o : Oper), ops[j]? = some o → listed.getD j false = true → ∀ e ∈ o.after, Region.binds md e = true → listed.getD e.on false = true
def closedB (md : Region.Mode) (ops : Array Oper) (listed : Array Bool) : Bool :=
  (List.range ops.size).all fun j => !listed.getD j false || match ops[j]? with | some o => o.after.all fun e => !Region.binds md e || listed.getD e.on false | none => true
theorem closed_of {listed : Array Bool} (h : closedB md ops listed = true) : Closed md ops listed := by
  intro j o ho hl e he hb
  have h1 := List.all_eq_true.1 h j (List.mem_range.2 (Array.getElem?_eq_some_iff.1 ho).1)
  rw [hl, ho] at h1
  have h2 := Array.all_eq_true_iff_forall_mem.1 (by simpa using h1 : (o.after.all fun e => !Region.binds md e || listed.getD e.on false) = true) e he
  rw [hb] at h2
  simpa using h2
theorem Closed.set {listed : Array Bool} (h : Closed md ops listed) {i : Nat} (hi : i ∈ Region.ready md ops listed) : Closed md ops (listed.setIfInBounds i true) := by
  intro j o ho hl e he hb
  refine getD_set_true ?_
  by_cases hij : i = j
  · subst hij
    obtain ⟨_, o', ho', hall⟩ := mem_ready.1 hi
    obtain rfl : o = o' := Option.some.inj (ho.symm.trans ho')
    exact hall e he hb
  · rw [getD_set_ne false hij] at hl
    exact h j o ho hl e he hb

/-- Number j waits for number k. -/
def waits (md : Region.Mode) (ops : Array Oper) (j k : Nat) : Bool := match ops[j]? with | some o => o.after.any fun e => Region.binds md e && e.on == k | none => false
/-- Number m waits, by others of A, for all of A. -/
def ancB (md : Region.Mode) (ops : Array Oper) (m : Nat) (A : List Nat) : Bool := A.all fun k => waits md ops m k || A.any fun j => decide (k < j) && (decide (j < ops.size) && waits md ops j k)
theorem waits_spec {j k : Nat} (h : waits md ops j k = true) : ∃ o, ops[j]? = some o ∧ ∃ e ∈ o.after, Region.binds md e = true ∧ e.on = k := by
  unfold waits at h
  split at h
  · rename_i o ho
    obtain ⟨e, he, hb⟩ := Array.any_eq_true'.1 h
    simp at hb
    exact ⟨o, ho, e, he, hb.1, hb.2⟩
  · cases h
theorem anc_spec {A : List Nat} {m : Nat} (hA : ancB md ops m A = true) {listed : Array Bool} (hc : Closed md ops listed) (hm : m ∈ Region.ready md ops listed) : ∀ n k, ops.size - k ≤ n → k ∈ A → listed.getD k false = true := by
  obtain ⟨_, om, hom, hall⟩ := mem_ready.1 hm
  intro n
  induction n with
  | zero =>
    intro k hn hk
    have h1 := List.all_eq_true.1 hA k hk
    rcases Bool.or_eq_true_iff.1 h1 with h1 | h1
    · obtain ⟨o, ho, e, he, hb, rfl⟩ := waits_spec h1
      obtain rfl : om = o := Option.some.inj (hom.symm.trans ho)
      exact hall e he hb
    · obtain ⟨j, hj, h2⟩ := List.any_eq_true.1 h1
      simp at h2
      omega
  | succ n ih =>
    intro k hn hk
    have h1 := List.all_eq_true.1 hA k hk
    rcases Bool.or_eq_true_iff.1 h1 with h1 | h1
    · obtain ⟨o, ho, e, he, hb, rfl⟩ := waits_spec h1
      obtain rfl : om = o := Option.some.inj (hom.symm.trans ho)
      exact hall e he hb
    · obtain ⟨j, hj, h2⟩ := List.any_eq_true.1 h1
      simp at h2
      obtain ⟨h3, h4, h5⟩ := h2
      obtain ⟨o, ho, e, he, hb, rfl⟩ := waits_spec h5
      exact hc j o ho (ih j (by omega) hj) e he hb
/-- All of M waits for all of A. -/
def ancsB (md : Region.Mode) (ops : Array Oper) (M A : List Nat) : Bool := M.all fun m => ancB md ops m A
theorem ahead_spec {A : List Nat} {i m : Nat} (hA : ancsB md ops M A = true) (hi : A.contains i = true) (hM : m ∈ M) {listed : Array Bool} (hc : Closed md ops listed) (hu : i ∈ Region.ready md ops listed) : ¬ m ∈ Region.ready md ops listed := by
  intro hm
  have h1 := anc_spec (List.all_eq_true.1 hA m hM) hc hm _ i (Nat.le_refl _) (by simpa using hi)
  have h0 := (mem_ready.1 hu).1
  rcases Nat.lt_or_ge i listed.size with h' | h'
  · simp [h'] at h0 h1; rw [h0] at h1; cases h1
  · simp [Array.getElem?_eq_none h'] at h1

theorem wpM_first {i : Nat} {oi : Oper} {v : Value} {T : World → Prop} (hi : ops[i]? = some oi) (hsel : ∀ (j : Nat) (o : Oper) cs b, ops[j]? = some o → o.op ≠ .select cs b)
    (hQ : ∀ c a w, Q (.panic c) (a.put oi.dst v) w → Q (.panic c) a w) (hT : ∀ listed j w w', Closed md ops listed → i ∈ Region.ready md ops listed → j ∈ Region.ready md ops listed → T w → (j ∈ M ∨ (S w → S w')) → T w') :
    ∀ (fuel : Nat) (listed : Array Bool) (a : Act) (w : World), Closed md ops listed →
      (∀ j oj, ops[j]? = some oj → j ≠ i → listed.getD j true = false → (∀ e ∈ oj.after, Region.binds md e = true → e.on ≠ i) → oi.apart ops oj = true) →
      i ∈ Region.ready md ops listed → YieldsIf P ops T oi v a → T w →
      wpM P md ops Q S M fuel (listed.setIfInBounds i true) (a.put oi.dst v) w → wpM P md ops Q S M (fuel + 1) listed a w := by
  intro fuel
  induction fuel with
  | zero =>
    intro listed a w hcl _ hr hy hS H
    refine ⟨fun h => (by rw [h] at hr; cases hr), fun j hj => ?_⟩
    by_cases hji : j = i
    · subst hji; exact hy.wpOp hi hS ⟨.inr id, H⟩
    · have := ready_mono hj hji
      rw [H.1] at this
      cases this
  | succ fuel ih =>
    intro listed a w hcl hfree hr hy hS H
    refine ⟨fun h => (by rw [h] at hr; cases hr), fun j hj => ?_⟩
    by_cases hji : j = i
    · subst hji; exact hy.wpOp hi hS ⟨.inr id, H⟩
    · have h1 := H.2 j (ready_mono hj hji)
      obtain ⟨hjun, oj, hoj, hall⟩ := mem_ready.1 hj
      have hnot : ∀ e ∈ oj.after, Region.binds md e = true → e.on ≠ i := fun e he hb heq => by
        have h1 := hall e he hb
        have h0 := (mem_ready.1 hr).1
        rw [heq] at h1
        rcases Nat.lt_or_ge i listed.size with h' | h'
        · simp [h'] at h0 h1; rw [h0] at h1; cases h1
        · simp [Array.getElem?_eq_none h'] at h1
      have h2 := wpOp_putIf hoj (hfree j oj hoj hji hjun hnot) (fun cs b => hsel i oi cs b hi) (fun cs b => hsel j oj cs b hoj) hQ hy h1
      have hfree' : ∀ k ok, ops[k]? = some ok → k ≠ i → (listed.setIfInBounds j true).getD k true = false →
          (∀ e ∈ ok.after, Region.binds md e = true → e.on ≠ i) → oi.apart ops ok = true := fun k ok hk hki hun hno => by
        refine hfree k ok hk hki ?_ hno
        by_cases hjk : j = k
        · subst hjk; exact hjun
        · rw [getD_set_ne true hjk] at hun; exact hun
      refine wpOp_mono (fun a' w' h3 => ?_) h2
      have hS' : T w' := hT listed j w w' hcl hr hj hS h3.2.1
      refine ⟨h3.2.1, ih (listed.setIfInBounds j true) a' w' (hcl.set hj) hfree' (ready_mono hr (Ne.symm hji)) h3.1 hS' ?_⟩
      rw [Array.setIfInBounds_comm _ _ hji]
      exact h3.2.2

/-- All that is asked of the region's edges where number i is taken first. -/
def takeB (md : Region.Mode) (ops : Array Oper) (listed : Array Bool) (i : Nat) : Bool :=
  Region.noSelect ops && Region.free md ops listed i && (Region.ready md ops listed).contains i && closedB md ops listed
theorem wpM_take' (i : Nat) {oi : Oper} {v : Value} {A : List Nat} {fuel : Nat} {listed : Array Bool} {a : Act} {w : World} (hA : ancsB md ops M A = true) (hi : ops[i]? = some oi) (ht : (takeB md ops listed i && A.contains i) = true)
    (hy : YieldsIf P ops S oi v a) (hS : S w) (h : wpM P md ops (NoPanic Q) S M fuel (listed.setIfInBounds i true) (a.put oi.dst v) w) : wpM P md ops (NoPanic Q) S M (fuel + 1) listed a w := by
  simp only [takeB, Bool.and_eq_true] at ht
  obtain ⟨⟨⟨⟨h1, h2⟩, h3⟩, h4⟩, h5⟩ := ht
  refine wpM_first (T := S) hi (Region.noSelect_spec h1) (fun _ _ _ h => h) ?_ fuel listed a w (closed_of h4) (Region.free_spec hi h2) (by simpa using h3) hy hS h
  intro l j w w' hc hr hj hw h
  exact h.elim (fun hm => absurd hj (ahead_spec hA h5 hm hc hr)) (fun h => h hw)
/-- Number i is taken first: it yields v wherever S holds. -/
theorem wpM_take (i : Nat) {oi : Oper} {v : Value} {A : List Nat} {fuel : Nat} {listed : Array Bool} {a : Act} {w : World} (hA : ancsB md ops M A = true) (hS : S w) (hi : ops[i]? = some oi) (ht : (takeB md ops listed i && A.contains i) = true)
    (hw : Region.wanted oi (yielded ops a.tmps) = true) (hy : ∀ w, S w → (execOp a.eval oi).run P w = .ok (.value v) w) (h : wpM P md ops (NoPanic Q) S M fuel (listed.setIfInBounds i true) (a.put oi.dst v) w) : wpM P md ops (NoPanic Q) S M (fuel + 1) listed a w :=
  wpM_take' i hA hi ht (.inl ⟨hw, hy⟩) hS h
theorem wpM_free' (i : Nat) {oi : Oper} {v : Value} {fuel : Nat} {listed : Array Bool} {a : Act} {w : World} (hi : ops[i]? = some oi) (ht : takeB md ops listed i = true)
    (hy : Yields P ops oi v a) (h : wpM P md ops (NoPanic Q) S M fuel (listed.setIfInBounds i true) (a.put oi.dst v) w) : wpM P md ops (NoPanic Q) S M (fuel + 1) listed a w := by
  simp only [takeB, Bool.and_eq_true] at ht
  obtain ⟨⟨⟨h1, h2⟩, h3⟩, h4⟩ := ht
  exact wpM_first (T := fun _ => True) hi (Region.noSelect_spec h1) (fun _ _ _ h => h) (fun _ _ _ _ _ _ _ _ _ => trivial) fuel listed a w (closed_of h4) (Region.free_spec hi h2) (by simpa using h3) (hy.yieldsIf) trivial h
/-- Number i is taken first: it yields v in whatever world. -/
theorem wpM_free (i : Nat) {oi : Oper} {v : Value} {fuel : Nat} {listed : Array Bool} {a : Act} {w : World} (hi : ops[i]? = some oi) (ht : takeB md ops listed i = true)
    (hw : Region.wanted oi (yielded ops a.tmps) = true) (hy : ∀ w, (execOp a.eval oi).run P w = .ok (.value v) w) (h : wpM P md ops (NoPanic Q) S M fuel (listed.setIfInBounds i true) (a.put oi.dst v) w) : wpM P md ops (NoPanic Q) S M (fuel + 1) listed a w :=
  wpM_free' i hi ht (.inl ⟨hw, hy⟩) h
/-- Number i is passed by: its guard says no. -/
theorem wpM_skip (i : Nat) {oi : Oper} {fuel : Nat} {listed : Array Bool} {a : Act} {w : World} (hi : ops[i]? = some oi) (ht : takeB md ops listed i = true)
    (hw : Region.wanted oi (yielded ops a.tmps) = false) (h : wpM P md ops (NoPanic Q) S M fuel (listed.setIfInBounds i true) (a.put oi.dst undef) w) : wpM P md ops (NoPanic Q) S M (fuel + 1) listed a w :=
  wpM_free' i hi ht (.inr ⟨hw, rfl⟩) h
/-- Number i alone may come up. -/
theorem wpM_only (i : Nat) {oi : Oper} {fuel : Nat} {listed : Array Bool} {a : Act} {w : World} (hi : ops[i]? = some oi) (hr : Region.ready md ops listed = [i])
    (h : ∀ K : Act → World → Prop, Shut (∀ a w, S w → (S w → wpM P md ops (NoPanic Q) S M fuel (listed.setIfInBounds i true) a w) → K a w) → if Region.wanted oi (yielded ops a.tmps) = true then Oper.wp P oi a w K (NoPanic Q) else K (a.put oi.dst undef) w) :
    wpM P md ops (NoPanic Q) S M (fuel + 1) listed a w :=
  ⟨fun h0 => (by rw [hr] at h0; cases h0), fun j hj => by
    rw [hr] at hj
    obtain rfl := List.mem_singleton.1 hj
    exact wpOp_step hi (fun K' hK => h K' (fun a w hS hW => hK a w ⟨.inr fun _ => hS, hW hS⟩))⟩
/-- Number i alone may come up, of M. -/
theorem wpM_last (i : Nat) {oi : Oper} {fuel : Nat} {listed : Array Bool} {a : Act} {w : World} (hi : ops[i]? = some oi) (hr : Region.ready md ops listed = [i]) (hm : i ∈ M)
    (h : ∀ K : Act → World → Prop, Shut (∀ a w, wpM P md ops (NoPanic Q) S M fuel (listed.setIfInBounds i true) a w → K a w) → if Region.wanted oi (yielded ops a.tmps) = true then Oper.wp P oi a w K (NoPanic Q) else K (a.put oi.dst undef) w) :
    wpM P md ops (NoPanic Q) S M (fuel + 1) listed a w :=
  ⟨fun h0 => (by rw [hr] at h0; cases h0), fun j hj => by
    rw [hr] at hj
    obtain rfl := List.mem_singleton.1 hj
    exact wpOp_step hi (fun K' hK => h K' (fun a w hW => hK a w ⟨.inl hm, hW⟩))⟩
theorem wpM_done {fuel : Nat} {listed : Array Bool} {a : Act} {w : World} (hr : Region.ready md ops listed = []) (h : Q .normal a w) : wpM P md ops (NoPanic Q) S M fuel listed a w := by
  cases fuel with
  | zero => exact ⟨hr, h⟩
  | succ n => exact ⟨fun _ => h, by rw [hr]; simp⟩
/-- The beginning. -/
theorem wpM_begin (S : World → Prop) (M A : List Nat) {id : Nat} {a : Act} {w : World} (hm : P.follows .mixedOrders = true) (hA : ancsB .any ops M A = true) (hS : S w.drew)
    (h : S w.drew → ancsB .any ops M A = true → wpM P .any ops (NoPanic Q) S M ops.size (Array.replicate ops.size false) a w.drew) : (Code.region id ops true).wp P Q a w :=
  wp_region_noPanic (wp_region_any hm (wpAny_of_M _ _ _ _ (h hS hA)))
end
end Go.Proofs.YtfpmapbimhdafaaGreatDoor

namespace Go.Proofs.YtfpmapbimhdafaaGreatDoor
open Go.RowKit
set_option linter.unusedVariables false
set_option linter.unusedSimpArgs false

/-- Side by side. -/
inductive Alls {α β : Type} (R : α → β → Prop) : List α → List β → Prop where
  | nil : Alls R [] []
  | cons {a b l m} : R a b → Alls R l m → Alls R (a :: l) (b :: m)
theorem Alls.mono {α β : Type} {R S : α → β → Prop} {l : List α} {m : List β} (h : Alls R l m) (hs : ∀ a b, R a b → S a b) : Alls S l m := by
  induction h with
  | nil => exact .nil
  | cons h _ ih => exact .cons (hs _ _ h) ih
theorem Alls.append {α β : Type} {R : α → β → Prop} {l l' : List α} {m m' : List β} (h : Alls R l m) (h' : Alls R l' m') : Alls R (l ++ l') (m ++ m') := by
  induction h with
  | nil => exact h'
  | cons h _ ih => exact .cons h ih
theorem Alls.length {α β : Type} {R : α → β → Prop} {l : List α} {m : List β} (h : Alls R l m) : l.length = m.length := by
  induction h with
  | nil => rfl
  | cons _ _ ih => simp [ih]
theorem Alls.at_ {α β : Type} {R : α → β → Prop} {l : List α} {m : List β} (h : Alls R l m) : ∀ (i : Nat) (x : α), l[i]? = some x → ∃ y, m[i]? = some y ∧ R x y := by
  induction h with
  | nil => intro i x hx; simp at hx
  | cons h _ ih =>
    intro i x hx
    cases i with
    | zero => simp at hx; subst hx; exact ⟨_, rfl, h⟩
    | succ i => simpa using ih i x (by simpa using hx)
theorem Alls.mem {α β : Type} {R : α → β → Prop} {l : List α} {m : List β} (h : Alls R l m) : ∀ y ∈ m, ∃ x ∈ l, R x y := by
  induction h with
  | nil => intro y hy; cases hy
  | cons h _ ih =>
    intro y hy
    rcases List.mem_cons.1 hy with rfl | hy
    · exact ⟨_, List.mem_cons_self .., h⟩
    · obtain ⟨x, hx, hr⟩ := ih y hy
      exact ⟨x, List.mem_cons_of_mem _ hx, hr⟩
theorem Alls.set {α β : Type} {R : α → β → Prop} {l : List α} {m : List β} (h : Alls R l m) (i : Nat) {x : α} {y : β} (hr : R x y) : Alls R (l.set i x) (m.set i y) := by
  induction h generalizing i with
  | nil => exact .nil
  | cons h hh ih =>
    cases i with
    | zero => exact .cons hr hh
    | succ i => exact .cons h (ih i)

/-- What stands at a place of lists of one length, one behind the other. -/
theorem flat_at {css : List (List Value)} {s : Nat} (hs : ∀ c ∈ css, c.length = s) : ∀ (i : Nat) (cs : List Value) (j : Nat) (v : Value), css[i]? = some cs → cs[j]? = some v → css.flatten[i * s + j]? = some v := by
  induction css with
  | nil => intro i cs j v h; simp at h
  | cons c css ih =>
    intro i cs j v h hj
    have hc : c.length = s := hs c (List.mem_cons_self ..)
    cases i with
    | zero =>
      simp at h
      subst h
      rw [List.flatten_cons, Nat.zero_mul, Nat.zero_add, List.getElem?_append_left (List.getElem?_eq_some_iff.1 hj).1]
      exact hj
    | succ i =>
      rw [List.flatten_cons, List.getElem?_append_right (by rw [hc, Nat.succ_mul]; omega), hc, show (i + 1) * s + j - s = i * s + j by rw [Nat.succ_mul]; omega]
      exact ih (fun c hc => hs c (List.mem_cons_of_mem _ hc)) i cs j v (by simpa using h) hj
theorem flat_len {css : List (List Value)} {s : Nat} (hs : ∀ c ∈ css, c.length = s) : css.flatten.length = css.length * s := by
  induction css with
  | nil => simp
  | cons c css ih =>
    rw [List.flatten_cons, List.length_append, hs c (List.mem_cons_self ..), ih (fun c hc => hs c (List.mem_cons_of_mem _ hc)), List.length_cons, Nat.succ_mul, Nat.add_comm]

/-- Blocks of O, and the one of a row. -/
def PlusV (O : Nat → Prop) (v : Value) : Nat → Prop := fun i => O i ∨ v.ownBlock = some i
/-- A row of the call's own, from block 'base' on: it may be appended to; what its elements reach lies outside of it. -/
def Own {α : Type} (w : World) (base : Nat) (e : TypeId) (k : Kd α) (O : Nat → Prop) (v : Value) (xs : List α) : Prop :=
  ∃ css : List (List Value), w.ownsRow base e k.size v xs.length css.flatten ∧ Alls (fun x cs => k.rep w (PlusV O v) x cs) xs css
theorem Own.nil {α : Type} {k : Kd α} (w : World) (base : Nat) (e : TypeId) (O : Nat → Prop) : Own w base e k O (.slice none 0 0) [] := ⟨[], World.ownsRow_nil w base e k.size, .nil⟩
/-- What was there before is as it was, but for O and what doesn't matter. -/
theorem Own.keep {α : Type} {k : Kd α} {w w' : World} {base : Nat} {e : TypeId} {O O' : Nat → Prop} {v : Value} {xs : List α} (h : Own w base e k O v xs) (he : Ext O' w w')
    (ho : ∀ b, b < w.heap.size → O' b → O b ∧ v.ownBlock ≠ some b) : Own w' base e k O v xs := by
  obtain ⟨css, h1, h2⟩ := h
  refine ⟨css, ?_, h2.mono fun x cs hx => k.keep hx fun b hb hn => ⟨hn, he.block b hb fun hO => hn (.inl (ho b hb hO).1)⟩⟩
  obtain ⟨hl, h1⟩ := h1
  refine ⟨hl, ?_⟩
  rcases h1 with h1 | ⟨g, cap, cur, hv, hg, hh, r⟩
  · exact .inl h1
  · refine .inr ⟨g, cap, cur, hv, hg, he.heap hh fun hO => ?_, r⟩
    exact (ho g (Array.getElem?_eq_some_iff.1 hh).1 hO).2 (by rw [hv]; rfl)
theorem Own.ext {α : Type} {k : Kd α} {w w' : World} {base : Nat} {e : TypeId} {O : Nat → Prop} {v : Value} {xs : List α} (h : Own w base e k O v xs) (he : Ext NoB w w') : Own w' base e k O v xs :=
  h.keep he fun _ _ h => h.elim
theorem Own.base {α : Type} {k : Kd α} {w : World} {base : Nat} {e : TypeId} {O : Nat → Prop} {v : Value} {xs : List α} (h : Own w base e k O v xs) {g : Nat} (hg : v.ownBlock = some g) : base ≤ g ∧ g < w.heap.size := by
  obtain ⟨css, h1, _⟩ := h
  exact h1.lt g hg
theorem Own.shape {α : Type} {k : Kd α} {w : World} {base : Nat} {e : TypeId} {O : Nat → Prop} {v : Value} {xs : List α} (h : Own w base e k O v xs) : ∃ A c, v = .slice A xs.length c ∧ xs.length ≤ c ∧ c ≤ maxLen := by
  obtain ⟨css, ⟨_, h1⟩, _⟩ := h
  rcases h1 with ⟨rfl, h0⟩ | ⟨g, cap, cur, rfl, _, _, h2, h3, _⟩
  · exact ⟨none, 0, by rw [h0], by omega, by simp [maxLen]⟩
  · exact ⟨_, cap, rfl, h2, h3⟩
/-- It may be read as a slice. -/
theorem Own.slice {α : Type} {k : Kd α} {pos : 0 < k.size} {w : World} {base : Nat} {e : TypeId} {O : Nat → Prop} {v : Value} {xs : List α} (h : Own w base e k O v xs) (ho : ∀ b, O b → b < base) : (k.slice pos).one w O xs v := by
  obtain ⟨css, hrow, hall⟩ := h
  have hs : ∀ c ∈ css, c.length = k.size := fun c hc => by
    obtain ⟨x, _, hx⟩ := hall.mem c hc
    exact k.len hx
  have hrow' := hrow
  obtain ⟨hl, h1⟩ := hrow
  rcases h1 with ⟨rfl, h0⟩ | ⟨g, cap, cur, rfl, hg, hh, h2, h3, h4⟩
  · have : xs = [] := List.eq_nil_of_length_eq_zero h0
    subst this
    exact Kd.nil_mk
  · refine Kd.slice_mk h2 h3 fun hne => ⟨g, 0, rfl, fun hO => by have := ho g hO; omega, fun i x hx => ?_⟩
    obtain ⟨cs, hcs, hr⟩ := hall.at_ i x hx
    refine ⟨cs, k.turn hr fun b _ hb => .inl hb, fun j v hj => ?_⟩
    have hc := hrow'.cells (g := g) rfl _ v (flat_at hs i cs j v hcs hj)
    rw [show (0 + i * k.size + j) = i * k.size + j by omega]
    have ha : (⟨g, 0, none⟩ : Addr).add (i * k.size + j) = ⟨g, i * k.size + j, none⟩ := by unfold Addr.add; split <;> simp_all
    rwa [ha] at hc

theorem add_at (b off n : Nat) : (⟨b, off, none⟩ : Addr).add n = ⟨b, off + n, none⟩ := by unfold Addr.add; split <;> simp_all

/-- A slice's cells, one behind the other. -/
theorem slice_flat {α : Type} {k : Kd α} {w : World} {O : Nat → Prop} {b off : Nat} : ∀ {xs : List α}, k.row w O b off xs → ∃ css : List (List Value), Alls (fun x cs => k.rep w O x cs) xs css ∧ ∀ (j : Nat) (u : Value), css.flatten[j]? = some u → w.cell? ⟨b, off + j, none⟩ = some u := by
  intro xs
  induction xs generalizing off with
  | nil => intro _; exact ⟨[], .nil, fun j u h => by simp at h⟩
  | cons x xs ih =>
    intro h
    obtain ⟨cs, hcs, hc⟩ := h 0 x rfl
    have hlen := k.len hcs
    obtain ⟨css, h1, h2⟩ := ih (off := off + k.size) (fun i y hy => by
      obtain ⟨cs', h3, h4⟩ := h (i + 1) y (by simpa using hy)
      refine ⟨cs', h3, fun j v hj => ?_⟩
      have := h4 j v hj
      rwa [show off + (i + 1) * k.size + j = off + k.size + i * k.size + j by rw [Nat.succ_mul]; omega] at this)
    refine ⟨cs :: css, .cons hcs h1, fun j u hj => ?_⟩
    rw [List.flatten_cons] at hj
    rcases Nat.lt_or_ge j cs.length with hlt | hge
    · rw [List.getElem?_append_left hlt] at hj
      have := hc j u hj
      rwa [Nat.zero_mul, Nat.add_zero] at this
    · rw [List.getElem?_append_right hge] at hj
      have := h2 _ u hj
      rwa [hlen, show off + k.size + (j - k.size) = off + j by omega] at this

theorem run_append_of_nil' {P : Program} (w : World) (base : Nat) (t ty e : TypeId) (i : TypeInfo) (size : Nat) (ht : P.underlying t = some (.slice e)) (hi : P.info? e = some i)
    (v : Value) (n : Nat) (xs : List Value) (hown : w.ownsRow base e size v n xs) (c : Nat) : (Builtin.append_ #[t, t] ty #[v, .slice none 0 c]).run P w = .ok v w := by
  rcases hown.2 with ⟨rfl, rfl⟩ | ⟨g, cap, cur, rfl, _, _, hnc, _⟩
  · simp [Builtin.append_, run_underlying ht, sizeOf, typeInfo, hi, Builtin.lenOf, Builtin.firstCells]
  · simp [Builtin.append_, run_underlying ht, sizeOf, typeInfo, hi, Builtin.lenOf, Builtin.firstCells, hnc, storeCells]

/-- 'append(v, src...)': v a row of the call's own, src a slice that is read. -/
theorem run_append_kd {P : Program} {α : Type} {k : Kd α} {pos : 0 < k.size} {w : World} (base : Nat) (t ty e : TypeId) (z : Value) (bytes : Nat) (ht : P.underlying t = some (.slice e))
    (hinfo : (P.info? e).map (fun i => (i.zero, i.size, i.bytes)) = some (some z, k.size, bytes)) (hzs : z.cells.size = k.size) (O : Nat → Prop)
    (v : Value) (xs : List α) (hown : Own w base e k O v xs) (src : Value) (ys : List α) (hsrc : (k.slice pos).one w (PlusV O v) ys src)
    (hb0 : 0 < bytes) (hbytes : (xs.length + ys.length) * bytes ≤ 140737488355328) (hbase : base ≤ w.heap.size) :
    ∃ v' w', (Builtin.append_ #[t, t] ty #[v, src]).run P w = .ok v' w' ∧ Own w' base e k O v' (xs ++ ys) ∧ Ext (fun b => v.ownBlock = some b) w w' ∧
      (v'.ownBlock = v.ownBlock ∨ v'.ownBlock = some w.heap.size) := by
  obtain ⟨i, hi, hzz⟩ := Option.map_eq_some_iff.1 hinfo
  simp only [Prod.mk.injEq] at hzz
  obtain ⟨hz0, hz1, hz2⟩ := hzz
  obtain ⟨A, c, rfl, hl, hm, hr⟩ := Kd.one_slice hsrc
  obtain ⟨css, hrow, hall⟩ := hown
  rcases Nat.eq_zero_or_pos ys.length with h0 | h0
  · have hy : ys = [] := List.eq_nil_of_length_eq_zero h0
    subst hy
    rcases A with _ | a
    · refine ⟨v, w, run_append_of_nil' w base t ty e i k.size ht hi v xs.length css.flatten hrow c, ?_, Ext.refl _ _, .inl rfl⟩
      rw [List.append_nil]
      exact ⟨css, hrow, hall⟩
    · have hlen : xs.length ≤ 140737488355328 := Nat.le_trans (Nat.le_mul_of_pos_right _ hb0) (by simpa using hbytes)
      obtain ⟨v', w', hrun, h2, h3, _, h5⟩ := run_append_own_at (P := P) w base t ty e i z k.size bytes ht hi hz0 hz1 hz2 hzs pos v xs.length css.flatten hrow a 0 c [] (by simp) (fun j u h => by simp at h) (fun u h => by cases h)
        (by simp only [maxLen]; omega) (by simpa using hbytes) hbase
      refine ⟨v', w', hrun, ⟨css, by simpa using h2, ?_⟩, ⟨h3.os, h3.tape, h3.output, h3.size, fun b hb hn => h3.block b hb fun e => hn e.symm⟩, h5⟩
      rw [List.append_nil]
      refine hall.mono fun x cs hx => k.keep hx fun b hb hn => ⟨fun hO => ?_, h3.block b hb fun e => hn (.inr e.symm)⟩
      rcases hO with hO | hO
      · exact hn (.inl hO)
      · rcases h5 with h5 | h5
        · exact hn (.inr (h5 ▸ hO))
        · rw [h5] at hO
          injection hO with hO
          omega
  · obtain ⟨b, off, rfl, hnb, hyrow⟩ := hr (fun e => by rw [e] at h0; simp at h0)
    obtain ⟨yss, hyall, hycells⟩ := slice_flat hyrow
    have hys : ∀ c ∈ yss, c.length = k.size := fun c hc => by
      obtain ⟨x, _, hx⟩ := hyall.mem c hc
      exact k.len hx
    have hyl : yss.flatten.length = ys.length * k.size := by rw [flat_len hys, ← hyall.length]
    have hlen : xs.length + ys.length ≤ 140737488355328 := Nat.le_trans (Nat.le_mul_of_pos_right _ hb0) hbytes
    obtain ⟨v', w', hrun, h2, h3, _, h5⟩ := run_append_own_at (P := P) w base t ty e i z k.size bytes ht hi hz0 hz1 hz2 hzs pos v xs.length css.flatten hrow ⟨b, off, none⟩ ys.length c yss.flatten hyl
      (fun j u h => by rw [add_at]; exact hycells j u h)
      (fun u hu => by
        obtain ⟨l, hl1, hl2⟩ := List.mem_flatten.1 hu
        obtain ⟨x, _, hx⟩ := hyall.mem l hl1
        exact k.ones hx u hl2)
      (by simp only [maxLen]; omega) hbytes hbase
    refine ⟨v', w', hrun, ⟨css ++ yss, ?_, ?_⟩, ⟨h3.os, h3.tape, h3.output, h3.size, fun b hb hn => h3.block b hb fun e => hn e.symm⟩, h5⟩
    · rw [List.length_append, List.flatten_append]
      exact h2
    · refine (hall.append hyall).mono fun x cs hx => k.keep hx fun b hb hn => ⟨fun hO => ?_, h3.block b hb fun e => hn (.inr e.symm)⟩
      rcases hO with hO | hO
      · exact hn (.inl hO)
      · rcases h5 with h5 | h5
        · exact hn (.inr (h5 ▸ hO))
        · rw [h5] at hO
          injection hO with hO
          omega

/-- In a walk, behind 'at_builtin'. -/
theorem wpl_append {P : Program} {ops : Array Oper} {rest : List Oper} {o : Oper} {a : Act} {Q : Exit → Act → World → Prop} {α : Type} (k : Kd α) (pos : 0 < k.size) {w : World} (hgd : o.guard = none) (s x : Operand) (t : TypeId)
    (ho : o.op = .call { callee := .builtin .append, args := #[s, x], argTypes := #[t, t] })
    (base : Nat) (e : TypeId) (z : Value) (bytes : Nat) (ht : P.underlying t = some (.slice e))
    (hinfo : (P.info? e).map (fun i => (i.zero, i.size, i.bytes)) = some (some z, k.size, bytes)) (hzs : z.cells.size = k.size) (O : Nat → Prop)
    (v : Value) (hs : a.eval s = v) (xs : List α) (hown : Own w base e k O v xs) (src : Value) (hx : a.eval x = src) (ys : List α) (hsrc : (k.slice pos).one w (PlusV O v) ys src)
    (hb0 : 0 < bytes) (hbytes : (xs.length + ys.length) * bytes ≤ 140737488355328) (hbase : base ≤ w.heap.size)
    (h : ∀ v' w', Own w' base e k O v' (xs ++ ys) → Ext (fun b => v.ownBlock = some b) w w' → (v'.ownBlock = v.ownBlock ∨ v'.ownBlock = some w.heap.size) → wpList P ops Q rest (a.put o.dst v') w') :
    wpList P ops Q (o :: rest) a w := by
  refine wpList_plain hgd fun K hK => ?_
  obtain ⟨v', w', hr, h2, h3, h4⟩ := run_append_kd (P := P) base t o.type e z bytes ht hinfo hzs O v xs hown src ys hsrc hb0 hbytes hbase
  unfold Oper.wp execOp
  simp only [ho, resolve, invoke, builtin, Sem.run_bind, Sem.run_pure, Result.andThen_ok, List.map_toArray, List.map_cons, List.map_nil, hs, hx, hr]
  exact hK _ _ (h v' w' h2 h3 h4)

/-- A literal of one element. -/
theorem lit_one {α : Type} {k : Kd α} {pos : 0 < k.size} {W : World} {O : Nat → Prop} {y : α} {cs : List Value} {e : TypeId} (hy : k.rep W O y cs) (hn : ¬ O W.heap.size) :
    (k.slice pos).one (W.alloc (.cells cs.toArray e)) O [y] (.slice (some ⟨W.heap.size, 0, none⟩) 1 1) := by
  refine Kd.slice_mk (xs := [y]) (Nat.le_refl _) (by simp [maxLen]) fun _ => ⟨W.heap.size, 0, rfl, hn, fun i x hx => ?_⟩
  cases i with
  | zero =>
    simp at hx
    subst hx
    refine ⟨cs, k.ext hy ((Ext.refl _ _).alloc _), fun j v hj => ?_⟩
    have hh : (W.alloc (.cells cs.toArray e)).heap[W.heap.size]? = some (.cells cs.toArray e (0, 0)) := heap_alloc_new W _
    have hc := cell_of_row (W.alloc (.cells cs.toArray e)) W.heap.size j cs.toArray e (0, 0) hh
    rw [show (0 + 0 * k.size + j) = j by omega, hc]
    simpa using hj
  | succ i => simp at hx

/-- 'append(v, y)': the goal's world is the one behind the literal. -/
theorem wpl_append1 {P : Program} {ops : Array Oper} {rest : List Oper} {o : Oper} {a : Act} {Q : Exit → Act → World → Prop} {α : Type} (k : Kd α) (pos : 0 < k.size) {W : World} (hgd : o.guard = none) (s x : Operand) (t : TypeId)
    (ho : o.op = .call { callee := .builtin .append, args := #[s, x], argTypes := #[t, t] })
    (base : Nat) (e : TypeId) (z : Value) (bytes : Nat) (ht : P.underlying t = some (.slice e))
    (hinfo : (P.info? e).map (fun i => (i.zero, i.size, i.bytes)) = some (some z, k.size, bytes)) (hzs : z.cells.size = k.size) (O : Nat → Prop)
    (v : Value) (hs : a.eval s = v) (xs : List α) (hown : Own W base e k O v xs) (hx : a.eval x = .slice (some ⟨W.heap.size, 0, none⟩) 1 1) (y : α) (cs : List Value) (hy : k.rep W (PlusV O v) y cs) (hO : ∀ b, O b → b < W.heap.size)
    (hb0 : 0 < bytes) (hbytes : (xs.length + 1) * bytes ≤ 140737488355328) (hbase : base ≤ W.heap.size)
    (h : ∀ v' w', Own w' base e k O v' (xs ++ [y]) → Ext (fun b => v.ownBlock = some b) W w' → (v'.ownBlock = v.ownBlock ∨ ∃ g, v'.ownBlock = some g ∧ W.heap.size ≤ g) → wpList P ops Q rest (a.put o.dst v') w') :
    wpList P ops Q (o :: rest) a (W.alloc (.cells cs.toArray e)) := by
  have hn : ¬ PlusV O v W.heap.size := by
    rintro (h | h)
    · exact absurd (hO _ h) (Nat.lt_irrefl _)
    · exact absurd (hown.base h).2 (Nat.lt_irrefl _)
  refine wpl_append k pos hgd s x t ho base e z bytes ht hinfo hzs O v hs xs (hown.ext ((Ext.refl _ _).alloc _)) _ hx [y] (lit_one hy hn) hb0 hbytes (by simp; omega) ?_
  intro v' w' h1 h2 h3
  refine h v' w' h1 ((Ext.trans ((Ext.refl _ _).alloc _) h2)) ?_
  rcases h3 with h3 | h3
  · exact .inl h3
  · exact .inr ⟨_, h3, by simp⟩

/-- 'make([]T, 0, n)', behind 'at_make'. -/
theorem wpl_make0 {P : Program} {ops : Array Oper} {rest : List Oper} {o : Oper} {a : Act} {Q : Exit → Act → World → Prop} {α : Type} (k : Kd α) {w : World} (hg : o.guard = none) (l c : Operand) (t : TypeId) (hop : o.op = Op.makeSlice t l c)
    (base : Nat) (e : TypeId) (z : Value) (bytes : Nat) (ht : P.underlying t = some (.slice e))
    (hinfo : (P.info? e).map (fun i => (i.zero, i.size, i.bytes)) = some (some z, k.size, bytes)) (O : Nat → Prop)
    (kl kc : IntKind) (C : Int) (n : Nat) (hl : a.eval l = .int kl 0) (hc : a.eval c = .int kc C) (hC : C = (n : Int)) (b2 : n * bytes ≤ 140737488355328) (b3 : n ≤ 140737488355328) (hbase : base ≤ w.heap.size)
    (h : ∀ v' w', v'.ownBlock = some w.heap.size → Own w' base e k O v' [] → Ext NoB w w' → wpList P ops Q rest (a.put o.dst v') w') :
    wpList P ops Q (o :: rest) a w := by
  obtain ⟨i, hi, hzz⟩ := Option.map_eq_some_iff.1 hinfo
  simp only [Prod.mk.injEq] at hzz
  obtain ⟨hz0, hz1, hz2⟩ := hzz
  refine wpList_make_own w hg l c t hop base e i z k.size ht hi hz0 hz1 kl kc C n hl hc hC (by rw [hz2, Nat.mul_comm]; omega) (by simp only [maxLen]; omega) hbase ?_
  intro w' h1 h2
  exact h _ w' rfl ⟨[], h1, .nil⟩ ⟨h2.os, h2.tape, h2.output, h2.size, fun b hb _ => h2.block b hb (by simp)⟩

theorem made_flat (z : Array Value) (n : Nat) : (madeCells z (n * z.size)).toList = (List.replicate n z.toList).flatten := by
  apply List.ext_getElem?
  intro j
  rcases Nat.eq_zero_or_pos z.size with h0 | h0
  · have : z = #[] := Array.eq_empty_of_size_eq_zero h0
    subst this
    simp [madeCells]
  rcases Nat.lt_or_ge j (n * z.size) with hj | hj
  · have hi : j / z.size < n := (Nat.div_lt_iff_lt_mul h0).2 hj
    have hm : j % z.size < z.size := Nat.mod_lt _ h0
    have h1 := flat_at (css := List.replicate n z.toList) (s := z.size) (by intro c hc; rw [(List.mem_replicate.1 hc).2]; simp) (j / z.size) z.toList (j % z.size) z[j % z.size] (by rw [List.getElem?_replicate, if_pos hi]) (by simp [hm])
    rw [show j / z.size * z.size + j % z.size = j by rw [Nat.mul_comm]; exact Nat.div_add_mod ..] at h1
    rw [h1]
    simp [madeCells, hj, hm]
  · have hl : (List.replicate n z.toList).flatten.length = n * z.size := by
      rw [flat_len (s := z.size) (by intro c hc; rw [(List.mem_replicate.1 hc).2]; simp)]; simp
    rw [List.getElem?_eq_none (by simpa [madeCells] using hj), List.getElem?_eq_none (by rw [hl]; exact hj)]

/-- 'make([]T, n)', behind 'at_make'. -/
theorem wpl_makeN {P : Program} {ops : Array Oper} {rest : List Oper} {o : Oper} {a : Act} {Q : Exit → Act → World → Prop} {α : Type} (k : Kd α) {w : World} (hg : o.guard = none) (l c : Operand) (t : TypeId) (hop : o.op = Op.makeSlice t l c)
    (base : Nat) (e : TypeId) (z : Value) (bytes : Nat) (ht : P.underlying t = some (.slice e))
    (hinfo : (P.info? e).map (fun i => (i.zero, i.size, i.bytes)) = some (some z, k.size, bytes)) (hzs : z.cells.size = k.size) (O : Nat → Prop)
    (kl kc : IntKind) (L C : Int) (n : Nat) (hl : a.eval l = .int kl L) (hc : a.eval c = .int kc C) (hL : L = (n : Int)) (hC : C = (n : Int)) (b2 : n * bytes ≤ 140737488355328) (b3 : n ≤ 140737488355328) (hbase : base ≤ w.heap.size)
    (x0 : α) (hx0 : ∀ w O, k.rep w O x0 z.cells.toList)
    (h : ∀ v' w', v' = .slice (some ⟨w.heap.size, 0, none⟩) n n → Own w' base e k O v' (List.replicate n x0) → Ext NoB w w' → wpList P ops Q rest (a.put o.dst v') w') :
    wpList P ops Q (o :: rest) a w := by
  obtain ⟨i, hi, hzz⟩ := Option.map_eq_some_iff.1 hinfo
  simp only [Prod.mk.injEq] at hzz
  obtain ⟨hz0, hz1, hz2⟩ := hzz
  refine wpList_make_full w hg l c t hop base e i z k.size ht hi hz0 hz1 kl kc L C n hl hc hL hC (by rw [hz2, Nat.mul_comm]; omega) (by simp only [maxLen]; omega) hbase ?_
  intro w' h1 h2
  refine h _ w' rfl ⟨List.replicate n z.cells.toList, ?_, ?_⟩ ⟨h2.os, h2.tape, h2.output, h2.size, fun b hb _ => h2.block b hb (by simp)⟩
  · rw [← hzs, made_flat] at h1
    rw [List.length_replicate, ← hzs]
    exact h1
  · clear h h1 b2 b3 hL hC
    induction n with
    | zero => exact .nil
    | succ n ih => exact .cons (hx0 _ _) ih
end Go.Proofs.YtfpmapbimhdafaaGreatDoor

namespace Go.Proofs.YtfpmapbimhdafaaGreatDoor
open Go.RowKit
set_option linter.unusedVariables false
set_option linter.unusedSimpArgs false

theorem info_int : (Tryz.prog.info? 3).map (fun i => (i.zero, i.size, i.bytes)) = some (some (.int .i64 0), 1, 8) := by kernel_rfl
theorem info_u32 : (Tryz.prog.info? 101).map (fun i => (i.zero, i.size, i.bytes)) = some (some (.int .u32 0), 1, 4) := by kernel_rfl
theorem info_Z : (Tryz.prog.info? 50).map (fun i => (i.zero, i.size, i.bytes)) = some (some (.agg #[.bool false, .slice none 0 0]), 2, 32) := by kernel_rfl
theorem info_Num : (Tryz.prog.info? 53).map (fun i => (i.zero, i.size, i.bytes)) = some (some (.agg #[.bool false, .slice none 0 0]), 2, 32) := by kernel_rfl
theorem info_Sort : (Tryz.prog.info? 74).map (fun i => (i.zero, i.size, i.bytes)) = some (some (.agg #[.string ⟨#[]⟩, .slice none 0 0]), 2, 40) := by kernel_rfl
theorem info_Fun : (Tryz.prog.info? 71).map (fun i => (i.zero, i.size, i.bytes)) = some (some (.agg #[.string ⟨#[]⟩, .slice none 0 0, .int .i64 0]), 3, 48) := by kernel_rfl
theorem info_Term : (Tryz.prog.info? 63).map (fun i => (i.zero, i.size, i.bytes)) = some (some (.agg #[.int .i64 0, .int .i64 0, .slice none 0 0, .string ⟨#[]⟩]), 4, 56) := by kernel_rfl
theorem info_Cmd : (Tryz.prog.info? 76).map (fun i => (i.zero, i.size, i.bytes)) = some (some (.agg #[.int .i64 0, .int .i64 0, .string ⟨#[]⟩, .int .i64 0, .int .i64 0]), 5, 48) := by kernel_rfl
theorem info_bool : (Tryz.prog.info? 4).map (fun i => (i.zero, i.size, i.bytes)) = some (some (.bool false), 1, 1) := by kernel_rfl

/-- Blocks of O are old. -/
def OldO (O : Nat → Prop) (w : World) : Prop := ∀ b, O b → b < w.heap.size
theorem OldO.ext {O O' : Nat → Prop} {w w' : World} (h : OldO O w) (he : Ext O' w w') : OldO O w' := fun b hb => Nat.lt_of_lt_of_le (h b hb) he.size
theorem PlusV.old {O : Nat → Prop} {v : Value} {b : Nat} (h : PlusV O v b) (hv : ∀ g, v.ownBlock = some g → b ≠ g) : O b := h.elim id fun e => absurd rfl (hv b e)
/-- What was there at w0 is no part of a row that is from w0 on. -/
theorem Kd.oneV {α : Type} (k : Kd α) {w0 w : World} {O : Nat → Prop} {x : α} {s v : Value} (h : k.one w0 O x s) (he : Ext O w0 w) (hv : ∀ g, v.ownBlock = some g → w0.heap.size ≤ g) : k.one w (PlusV O v) x s :=
  k.oneKeep h he fun b hb h => h.elim id fun e => by have := hv b e; omega
theorem Kd.aggV {α : Type} (k : Kd α) {w0 w : World} {O : Nat → Prop} {x : α} {s v : Value} (h : k.agg w0 O x s) (he : Ext O w0 w) (hv : ∀ g, v.ownBlock = some g → w0.heap.size ≤ g) : k.agg w (PlusV O v) x s :=
  k.aggKeep h he fun b hb h => h.elim id fun e => by have := hv b e; omega

set_option maxRecDepth 100000 in
set_option maxHeartbeats 400000 in
theorem c_copied (va : Value) (xs : List Int) (w : World) (O : Nat → Prop) (ha : kInts.one w O xs va) (hl : xs.length ≤ 1000000000) :
    Calls Tryz.prog 61 #[va] w fun e w' => ∃ v, e = .returned v ∧ Own w' w.heap.size 3 kInt O v xs ∧ Ext NoB w w' := by
  have HA := Lib.hid ha
  clear ha
  go_enter Tryz.func61, Tryz.ntmps61
  go_wp2_with (at_builtin; refine wpl_append kInt Nat.one_pos rfl (.const (.slice none 0 0)) (.tmp 3) 28 rfl w.heap.size 3 _ 8 Tryz.underlying28 info_int rfl O (.slice none 0 0) rfl [] (Own.nil w _ _ _) va rfl xs (kInts.oneV HA.out (Ext.refl _ _) (fun g h => by cases h)) (by omega) (by simp only [List.length_nil]; omega) (Nat.le_refl _) ?_; intro v1 w1 hO1 hE1 hat1)
  go_ret
  exact ⟨_, rfl, hO1, hE1.mono (fun i _ h => by cases h)⟩
set_option maxRecDepth 100000 in
set_option maxHeartbeats 400000 in
theorem c_zcopied (va : Value) (xs : List Int) (w : World) (O : Nat → Prop) (ha : kDigs.one w O xs va) (hl : xs.length ≤ 1000000000) :
    Calls Tryz.prog 89 #[va] w fun e w' => ∃ v, e = .returned v ∧ Own w' w.heap.size 101 (Kd.int .u32) O v xs ∧ Ext NoB w w' := by
  have HA := Lib.hid ha
  clear ha
  go_enter Tryz.func89, Tryz.ntmps89
  go_wp2_with (at_builtin; refine wpl_append (Kd.int .u32) Nat.one_pos rfl (.const (.slice none 0 0)) (.tmp 3) 48 rfl w.heap.size 101 _ 4 Tryz.underlying48 info_u32 rfl O (.slice none 0 0) rfl [] (Own.nil w _ _ _) va rfl xs (kDigs.oneV HA.out (Ext.refl _ _) (fun g h => by cases h)) (by omega) (by simp only [List.length_nil]; omega) (Nat.le_refl _) ?_; intro v1 w1 hO1 hE1 hat1)
  go_ret
  exact ⟨_, rfl, hO1, hE1.mono (fun i _ h => by cases h)⟩
end Go.Proofs.YtfpmapbimhdafaaGreatDoor

namespace Go.Proofs.YtfpmapbimhdafaaGreatDoor
open Go.RowKit
set_option linter.unusedVariables false
set_option linter.unusedSimpArgs false

theorem ne_nil_of_lt {α : Type} {xs : List α} {k : Nat} (h : k < xs.length) : xs ≠ [] := by rintro rfl; simp at h
theorem at_some {α : Type} {xs : List α} {k : Nat} (h : k < xs.length) : ∃ x, xs[k]? = some x := ⟨_, List.getElem?_eq_getElem h⟩
/-- A row of whole numbers, at k. -/
theorem ints_at {w : World} {O : Nat → Prop} {ik : IntKind} {xs : List Int} {A : Option Addr} (hr : xs ≠ [] → ∃ b off, A = some ⟨b, off, none⟩ ∧ ¬ O b ∧ (Kd.int ik).row w O b off xs) {k : Nat} (hk : k < xs.length) :
    ∃ b off, A = some ⟨b, off, none⟩ ∧ ¬ O b ∧ w.cell? ⟨b, off + k, none⟩ = some (.int ik (rdI xs k)) ∧ (Lit.int ik (rdI xs k)).wf = true := by
  obtain ⟨b, off, hA, hb, hrow⟩ := hr (ne_nil_of_lt hk)
  obtain ⟨cs, ⟨rfl, hwf⟩, hc⟩ := hrow k xs[k] (List.getElem?_eq_getElem hk)
  have h0 := hc 0 _ rfl
  have hs : (Kd.int ik).size = 1 := rfl
  rw [hs, Nat.mul_one, Nat.add_zero] at h0
  rw [rdI_eq hk]
  exact ⟨b, off, hA, hb, h0, hwf⟩
theorem take_succ_eq {xs ys : List Int} {k : Nat} (hx : k < xs.length) (hy : k < ys.length) (h : xs.take k = ys.take k) (he : rdI xs k = rdI ys k) : xs.take (k + 1) = ys.take (k + 1) := by
  rw [List.take_succ_eq_append_getElem hx, List.take_succ_eq_append_getElem hy, h]
  rw [rdI_eq hx, rdI_eq hy] at he
  rw [he]
theorem ne_of_at {xs ys : List Int} {k : Nat} (he : ¬ rdI xs k = rdI ys k) : ¬ xs = ys := by rintro rfl; exact he rfl

set_option maxRecDepth 100000 in
set_option maxHeartbeats 400000 in
theorem c_SameInts (va vb : Value) (xs ys : List Int) (w : World) (O : Nat → Prop) (ha : kInts.one w O xs va) (hb : kInts.one w O ys vb) :
    Calls Tryz.prog 44 #[va, vb] w fun e w' => e = .returned (.bool (decide (xs = ys))) ∧ Dr w w' := by
  obtain ⟨A, c, rfl, hl, hm, hr⟩ := Kd.one_slice ha
  obtain ⟨B, d, rfl, hl', hm', hr'⟩ := Kd.one_slice hb
  have HA := Lib.hid hr
  have HB := Lib.hid hr'
  clear hr hr' ha hb
  unfold maxLen at hm hm'
  by_cases hne : xs.length = ys.length
  · have hb : ((xs.length : Int) != ys.length) = false := by rw [hne]; simp
    have HN := Lib.hid hne; clear hne
    go_enter Tryz.func44, Tryz.ntmps44
    go_wp2_with fail
    go_loopw [5] (fun i wr => ∃ k : Nat, k ≤ xs.length ∧ i = .int .i64 k ∧ Hid (xs.take k = ys.take k) ∧ ∃ n, wr = w.drewN n) (fun i _ => xs.length - (intOf i).toNat)
    case atStart => exact ⟨0, Nat.zero_le _, rfl, Lib.hid (by simp), 0, rfl⟩
    case round =>
      obtain ⟨k, hk, rfl, HK, n, rfl⟩ := hrel
      by_cases hlt : k < xs.length
      · have hy : k < ys.length := by have := HN.out; omega
        obtain ⟨b, off, rfl, _, c1, _⟩ := ints_at HA.out hlt
        obtain ⟨b', off', rfl, _, c2, _⟩ := ints_at HB.out hy
        by_cases he : rdI xs k = rdI ys k
        · have hbe : ((rdI xs k) != (rdI ys k)) = false := by rw [he]; simp
          have HE := Lib.hid he; clear he
          go_wp2_with fail
          go_quiet (fail)
          go_wp2_with fail
          exact ⟨⟨k + 1, by omega, by go_num, take_succ_eq hlt hy HK.out HE.out, _, rfl⟩, by simp [intOf]; omega⟩
        · have hbe : ((rdI xs k) != (rdI ys k)) = true := by simpa using he
          have HE := Lib.hid he; clear he
          go_wp2_with fail
          go_quiet (fail)
          go_wp2_with fail
          go_ret
          exact ⟨retB (decide_eq_false (ne_of_at HE.out)).symm, Dr.nn _ _ _⟩
      · go_wp2_with fail
        go_ret
        refine ⟨?_, Dr.n _ _⟩
        have h := HK.out
        rw [List.take_of_length_le (by omega), List.take_of_length_le (by have := HN.out; omega)] at h
        exact retB (decide_eq_true h).symm
  · have hb : ((xs.length : Int) != ys.length) = true := by rw [bne_iff_ne]; omega
    have HN := Lib.hid hne; clear hne
    go_enter Tryz.func44, Tryz.ntmps44
    go_wp2_with fail
    go_ret
    exact ⟨retB (decide_eq_false (fun e => HN.out (by rw [e]))).symm, Dr.refl _⟩
set_option maxRecDepth 100000 in
set_option maxHeartbeats 400000 in
theorem c_Equal (va vb : Value) (xs ys : List Int) (w : World) (O : Nat → Prop) (ha : kInts.one w O xs va) (hb : kInts.one w O ys vb) :
    Calls Tryz.prog 114 #[va, vb] w fun e w' => e = .returned (.bool (decide (xs = ys))) ∧ Dr w w' := by
  obtain ⟨A, c, rfl, hl, hm, hr⟩ := Kd.one_slice ha
  obtain ⟨B, d, rfl, hl', hm', hr'⟩ := Kd.one_slice hb
  have HA := Lib.hid hr
  have HB := Lib.hid hr'
  clear hr hr' ha hb
  unfold maxLen at hm hm'
  by_cases hne : xs.length = ys.length
  · have hb : ((xs.length : Int) != ys.length) = false := by rw [hne]; simp
    have HN := Lib.hid hne; clear hne
    go_enter Tryz.func114, Tryz.ntmps114
    go_wp2_with fail
    go_loopw [5, 13] (fun _ i wr => ∃ k : Nat, k ≤ xs.length ∧ i = .int .i64 k ∧ Hid (xs.take k = ys.take k) ∧ ∃ n, wr = w.drewN n) (fun _ i _ => xs.length - (intOf i).toNat)
    case atStart => exact ⟨0, Nat.zero_le _, rfl, Lib.hid (by simp), 0, rfl⟩
    case round =>
      obtain ⟨k, hk, rfl, HK, n, rfl⟩ := hrel
      by_cases hlt : k < xs.length
      · have hy : k < ys.length := by have := HN.out; omega
        obtain ⟨b, off, rfl, _, c1, _⟩ := ints_at HA.out hlt
        obtain ⟨b', off', rfl, _, c2, _⟩ := ints_at HB.out hy
        by_cases he : rdI xs k = rdI ys k
        · have hbe : ((rdI xs k) != (rdI ys k)) = false := by rw [he]; simp
          have HE := Lib.hid he; clear he
          go_wp2_with fail
          go_quiet (fail)
          go_wp2_with fail
          exact ⟨⟨k + 1, by omega, by go_num, take_succ_eq hlt hy HK.out HE.out, _, rfl⟩, by simp [intOf]; omega⟩
        · have hbe : ((rdI xs k) != (rdI ys k)) = true := by simpa using he
          have HE := Lib.hid he; clear he
          go_wp2_with fail
          go_quiet (fail)
          go_wp2_with fail
          go_ret
          exact ⟨retB (decide_eq_false (ne_of_at HE.out)).symm, Dr.nn _ _ _⟩
      · go_wp2_with fail
        go_ret
        refine ⟨?_, Dr.n _ _⟩
        have h := HK.out
        rw [List.take_of_length_le (by omega), List.take_of_length_le (by have := HN.out; omega)] at h
        exact retB (decide_eq_true h).symm
  · have hb : ((xs.length : Int) != ys.length) = true := by rw [bne_iff_ne]; omega
    have HN := Lib.hid hne; clear hne
    go_enter Tryz.func114, Tryz.ntmps114
    go_wp2_with fail
    go_ret
    exact ⟨retB (decide_eq_false (fun e => HN.out (by rw [e]))).symm, Dr.refl _⟩

/-- Held against one another from the k-th digit down. -/
def cmpTo (xs ys : List Int) : Nat → Int
  | 0 => 0
  | k + 1 => if rdI xs k < rdI ys k then -1 else if rdI ys k < rdI xs k then 1 else cmpTo xs ys k
def cmpDigs (xs ys : List Int) : Int := if xs.length = ys.length then cmpTo xs ys xs.length else if xs.length < ys.length then -1 else 1
theorem cmpTo_lt {xs ys : List Int} {k : Nat} (h : rdI xs k < rdI ys k) : cmpTo xs ys (k + 1) = -1 := by simp [cmpTo, h]
theorem cmpTo_gt {xs ys : List Int} {k : Nat} (h : rdI ys k < rdI xs k) : cmpTo xs ys (k + 1) = 1 := by rw [cmpTo, if_neg (by omega), if_pos h]
theorem cmpTo_eq {xs ys : List Int} {k : Nat} (h : ¬ rdI xs k < rdI ys k) (h' : ¬ rdI ys k < rdI xs k) : cmpTo xs ys (k + 1) = cmpTo xs ys k := by rw [cmpTo, if_neg h, if_neg h']

set_option maxRecDepth 100000 in
set_option maxHeartbeats 400000 in
theorem c_compare (va vb : Value) (xs ys : List Int) (w : World) (O : Nat → Prop) (ha : kDigs.one w O xs va) (hb : kDigs.one w O ys vb) :
    Calls Tryz.prog 43 #[va, vb] w fun e w' => e = .returned (.int .i64 (cmpDigs xs ys)) ∧ Dr w w' := by
  obtain ⟨A, c, rfl, hl, hm, hr⟩ := Kd.one_slice ha
  obtain ⟨B, d, rfl, hl', hm', hr'⟩ := Kd.one_slice hb
  have HA := Lib.hid hr
  have HB := Lib.hid hr'
  clear hr hr' ha hb
  unfold maxLen at hm hm'
  by_cases hne : xs.length = ys.length
  · have hb : ((xs.length : Int) != ys.length) = false := by rw [hne]; simp
    have HC : Hid (cmpDigs xs ys = cmpTo xs ys xs.length) := Lib.hid (by rw [cmpDigs, if_pos hne])
    have HN := Lib.hid hne; clear hne
    go_enter Tryz.func43, Tryz.ntmps43
    go_wp2_with fail
    go_loopw [5] (fun i wr => ∃ k : Nat, k ≤ xs.length ∧ i = .int .i64 ((k : Int) - 1) ∧ Hid (cmpDigs xs ys = cmpTo xs ys k) ∧ ∃ n, wr = w.drewN n) (fun i _ => (intOf i + 1).toNat)
    case atStart => exact ⟨_, Nat.le_refl _, rfl, HC, 0, rfl⟩
    case round =>
      obtain ⟨k, hk, rfl, HK, n, rfl⟩ := hrel
      rcases k with _ | j
      · go_wp2_with fail
        go_ret
        exact ⟨retI (HK.out.trans rfl).symm, Dr.n _ _⟩
      · have hy : j < ys.length := by have := HN.out; omega
        obtain ⟨b, off, rfl, _, c1, _⟩ := ints_at HA.out (show j < xs.length by omega)
        obtain ⟨b', off', rfl, _, c2, _⟩ := ints_at HB.out hy
        by_cases h1 : rdI xs j < rdI ys j
        · have e1 := Lib.hid (HK.out.trans (cmpTo_lt h1))
          go_wp2_with fail
          go_quiet (fail)
          go_wp2_with fail
          go_ret
          exact ⟨retI e1.out.symm, (Dr.n _ _).step _⟩
        · by_cases h2 : rdI ys j < rdI xs j
          · have e1 := Lib.hid (HK.out.trans (cmpTo_gt h2))
            go_wp2_with fail
            go_quiet (fail)
            go_wp2_with fail
            go_quiet (fail)
            go_wp2_with fail
            go_ret
            exact ⟨retI e1.out.symm, ((Dr.n _ _).step _).step _⟩
          · have e1 := Lib.hid (HK.out.trans (cmpTo_eq h1 h2))
            go_wp2_with fail
            go_quiet (fail)
            go_wp2_with fail
            go_quiet (fail)
            go_wp2_with fail
            exact ⟨⟨j, by omega, by go_num, e1, _, rfl⟩, by simp [intOf]⟩
  · have hb : ((xs.length : Int) != ys.length) = true := by rw [bne_iff_ne]; omega
    by_cases hlt : xs.length < ys.length
    all_goals
      have HC := Lib.hid hlt
      have HN := Lib.hid hne
      go_enter Tryz.func43, Tryz.ntmps43
      go_wp2_with fail
      go_ret
      exact ⟨retI (by rw [cmpDigs, if_neg HN.out]; first | rw [if_pos HC.out] | rw [if_neg HC.out]), Dr.refl _⟩

set_option maxRecDepth 100000 in
set_option maxHeartbeats 400000 in
theorem c_cmp (va vb : Value) (xs ys : List Int) (w : World) (O : Nat → Prop) (ha : kInts.one w O xs va) (hb : kInts.one w O ys vb) :
    Calls Tryz.prog 83 #[va, vb] w fun e w' => e = .returned (.int .i64 (cmpDigs xs ys)) ∧ Dr w w' := by
  obtain ⟨A, c, rfl, hl, hm, hr⟩ := Kd.one_slice ha
  obtain ⟨B, d, rfl, hl', hm', hr'⟩ := Kd.one_slice hb
  have HA := Lib.hid hr
  have HB := Lib.hid hr'
  clear hr hr' ha hb
  unfold maxLen at hm hm'
  by_cases hne : xs.length = ys.length
  · have hb : ((xs.length : Int) != ys.length) = false := by rw [hne]; simp
    have HC : Hid (cmpDigs xs ys = cmpTo xs ys xs.length) := Lib.hid (by rw [cmpDigs, if_pos hne])
    have HN := Lib.hid hne; clear hne
    go_enter Tryz.func83, Tryz.ntmps83
    go_wp2_with fail
    go_loopw [5] (fun i wr => ∃ k : Nat, k ≤ xs.length ∧ i = .int .i64 ((k : Int) - 1) ∧ Hid (cmpDigs xs ys = cmpTo xs ys k) ∧ ∃ n, wr = w.drewN n) (fun i _ => (intOf i + 1).toNat)
    case atStart => exact ⟨_, Nat.le_refl _, rfl, HC, 0, rfl⟩
    case round =>
      obtain ⟨k, hk, rfl, HK, n, rfl⟩ := hrel
      rcases k with _ | j
      · go_wp2_with fail
        go_ret
        exact ⟨retI (HK.out.trans rfl).symm, Dr.n _ _⟩
      · have hy : j < ys.length := by have := HN.out; omega
        obtain ⟨b, off, rfl, _, c1, _⟩ := ints_at HA.out (show j < xs.length by omega)
        obtain ⟨b', off', rfl, _, c2, _⟩ := ints_at HB.out hy
        by_cases h1 : rdI xs j < rdI ys j
        · have e1 := Lib.hid (HK.out.trans (cmpTo_lt h1))
          have hn : (rdI xs j != rdI ys j) = true := by rw [bne_iff_ne]; omega
          go_wp2_with fail
          go_quiet (fail)
          go_wp2_with fail
          go_quiet (fail)
          go_wp2_with fail
          go_ret
          exact ⟨retI e1.out.symm, ((Dr.n _ _).step _).step _⟩
        · by_cases h2 : rdI ys j < rdI xs j
          · have e1 := Lib.hid (HK.out.trans (cmpTo_gt h2))
            have hn : (rdI xs j != rdI ys j) = true := by rw [bne_iff_ne]; omega
            go_wp2_with fail
            go_quiet (fail)
            go_wp2_with fail
            go_quiet (fail)
            go_wp2_with fail
            go_ret
            exact ⟨retI e1.out.symm, ((Dr.n _ _).step _).step _⟩
          · have e1 := Lib.hid (HK.out.trans (cmpTo_eq h1 h2))
            have hn : (rdI xs j != rdI ys j) = false := by rw [bne_eq_false_iff_eq]; omega
            go_wp2_with fail
            go_quiet (fail)
            go_wp2_with fail
            exact ⟨⟨j, by omega, by go_num, e1, _, rfl⟩, by simp [intOf]⟩
  · have hb : ((xs.length : Int) != ys.length) = true := by rw [bne_iff_ne]; omega
    by_cases hlt : xs.length < ys.length
    all_goals
      have HC := Lib.hid hlt
      have HN := Lib.hid hne
      go_enter Tryz.func83, Tryz.ntmps83
      go_wp2_with fail
      go_ret
      exact ⟨retI (by rw [cmpDigs, if_neg HN.out]; first | rw [if_pos HC.out] | rw [if_neg HC.out]), Dr.refl _⟩

/-- An integer's value, opened. -/
theorem z_open {w : World} {O : Nat → Prop} {x : ZInt} {v : Value} (h : kZ.agg w O x v) :
    ∃ A c, v = .agg #[.bool x.neg, .slice A x.digs.length c] ∧ x.digs.length ≤ c ∧ c ≤ maxLen ∧ (x.digs ≠ [] → ∃ b off, A = some ⟨b, off, none⟩ ∧ ¬ O b ∧ (Kd.int .u32).row w O b off x.digs) := by
  obtain ⟨cs, rfl, h⟩ := h
  obtain ⟨v, rfl, h'⟩ := kZ_iff.1 h
  obtain ⟨A, c, rfl, h1, h2, h3⟩ := Kd.one_slice h'
  exact ⟨A, c, rfl, h1, h2, h3⟩
theorem z_mk {w : World} {O : Nat → Prop} {x : ZInt} {A : Option Addr} {c : Nat} (h1 : x.digs.length ≤ c) (h2 : c ≤ maxLen) (h3 : x.digs ≠ [] → ∃ b off, A = some ⟨b, off, none⟩ ∧ ¬ O b ∧ (Kd.int .u32).row w O b off x.digs) :
    kZ.agg w O x (.agg #[.bool x.neg, .slice A x.digs.length c]) := ⟨[.bool x.neg, .slice A x.digs.length c], rfl, kZ_iff.2 ⟨_, rfl, Kd.slice_mk h1 h2 h3⟩⟩

set_option maxRecDepth 100000 in
set_option maxHeartbeats 400000 in
theorem c_zSame (va vb : Value) (x y : ZInt) (w : World) (O : Nat → Prop) (ha : kZ.agg w O x va) (hb : kZ.agg w O y vb) :
    Calls Tryz.prog 18 #[va, vb] w fun e w' => e = .returned (.bool (decide (x = y))) ∧ Ext NoB w w' := by
  obtain ⟨A, c, rfl, hl, hm, hr⟩ := z_open ha
  obtain ⟨B, d, rfl, hl', hm', hr'⟩ := z_open hb
  have HA := Lib.hid hr
  have HB := Lib.hid hr'
  clear hr hr' ha hb
  obtain ⟨s, xs⟩ := x
  obtain ⟨t, ys⟩ := y
  simp only at *
  unfold maxLen at hm hm'
  by_cases hst : s = t
  · subst hst
    by_cases hne : xs.length = ys.length
    · have hb : ((xs.length : Int) != ys.length) = false := by rw [hne]; simp
      have HN := Lib.hid hne; clear hne
      go_enter Tryz.func18, Tryz.ntmps18
      go_wp2_with fail
      go_loopw [5] (fun i wr => ∃ k : Nat, k ≤ xs.length ∧ i = .int .i64 k ∧ Hid (xs.take k = ys.take k) ∧ ∃ n, wr = ((w.alloc (Obj.cells #[.bool s, .slice A xs.length c] 50)).alloc (Obj.cells #[.bool s, .slice B ys.length d] 50)).drewN n) (fun i _ => xs.length - (intOf i).toNat)
      case atStart => exact ⟨0, Nat.zero_le _, rfl, Lib.hid (by simp), 0, rfl⟩
      case round =>
        obtain ⟨k, hk, rfl, HK, n, rfl⟩ := hrel
        by_cases hlt : k < xs.length
        · have hy : k < ys.length := by have := HN.out; omega
          obtain ⟨b, off, rfl, _, c1, _⟩ := ints_at HA.out hlt
          obtain ⟨b', off', rfl, _, c2, _⟩ := ints_at HB.out hy
          have l1 := cell_lt c1
          have l2 := cell_lt c2
          by_cases he : rdI xs k = rdI ys k
          · have hbe : ((rdI xs k) != (rdI ys k)) = false := by rw [he]; simp
            have HE := Lib.hid he; clear he
            go_wp2_with fail
            go_quiet (fail)
            go_wp2_with fail
            exact ⟨⟨k + 1, by omega, by go_num, take_succ_eq hlt hy HK.out HE.out, _, rfl⟩, by simp [intOf]; omega⟩
          · have hbe : ((rdI xs k) != (rdI ys k)) = true := by simpa using he
            have HE := Lib.hid he; clear he
            go_wp2_with fail
            go_quiet (fail)
            go_wp2_with fail
            go_ret
            exact ⟨retB (decide_eq_false (fun e => by injection e with _ e; exact ne_of_at HE.out e)).symm, ((((Ext.refl _ _).alloc _).alloc _).drewN _).drewN _⟩
        · go_wp2_with fail
          go_ret
          refine ⟨?_, (((Ext.refl _ _).alloc _).alloc _).drewN _⟩
          have h := HK.out
          rw [List.take_of_length_le (by omega), List.take_of_length_le (by have := HN.out; omega)] at h
          exact retB (decide_eq_true (by rw [h])).symm
    · have hb : ((xs.length : Int) != ys.length) = true := by rw [bne_iff_ne]; omega
      have HN := Lib.hid hne; clear hne
      go_enter Tryz.func18, Tryz.ntmps18
      go_wp2_with fail
      go_ret
      exact ⟨retB (decide_eq_false (fun e => HN.out (by injection e with _ e; rw [e]))).symm, ((Ext.refl _ _).alloc _).alloc _⟩
  · have hb : (s != t) = true := by simpa using hst
    have HN := Lib.hid hst; clear hst
    go_enter Tryz.func18, Tryz.ntmps18
    go_wp2_with fail
    go_ret
    exact ⟨retB (decide_eq_false (fun e => HN.out (by injection e))).symm, ((Ext.refl _ _).alloc _).alloc _⟩

end Go.Proofs.YtfpmapbimhdafaaGreatDoor

namespace Go.Proofs.YtfpmapbimhdafaaGreatDoor
open Go.RowKit
set_option linter.unusedVariables false
set_option linter.unusedSimpArgs false

/-- May an integer be? -/
def zRight (x : ZInt) : Bool := if x.digs.length = 0 then !x.neg else (x.digs.all fun d => decide (d < 1000000000)) && rdI x.digs (x.digs.length - 1) != 0
theorem all_take_succ {xs : List Int} {k : Nat} {p : Int → Bool} (hk : k < xs.length) (h : (xs.take k).all p = true) (hp : p (rdI xs k) = true) : (xs.take (k + 1)).all p = true := by
  rw [List.take_succ_eq_append_getElem hk, List.all_append, h]
  rw [rdI_eq hk] at hp
  simp [hp]
theorem all_false_at {xs : List Int} {k : Nat} {p : Int → Bool} (hk : k < xs.length) (hp : p (rdI xs k) = false) : xs.all p = false := by
  rw [rdI_eq hk] at hp
  rw [List.all_eq_false]
  exact ⟨xs[k], List.getElem_mem hk, by simp [hp]⟩
theorem zRight_nil {x : ZInt} (h : x.digs.length = 0) : zRight x = !x.neg := by rw [zRight, if_pos h]
theorem zRight_bad {x : ZInt} {k : Nat} (hk : k < x.digs.length) (h : ¬ rdI x.digs k < 1000000000) : zRight x = false := by
  rw [zRight, if_neg (by omega), all_false_at hk (by simpa using h)]
  rfl
theorem zRight_all {x : ZInt} (h0 : x.digs.length ≠ 0) (h : (x.digs.all fun d => decide (d < 1000000000)) = true) : zRight x = (rdI x.digs (x.digs.length - 1) != 0) := by
  rw [zRight, if_neg h0, h]
  rfl
set_option maxRecDepth 100000 in
set_option maxHeartbeats 400000 in
theorem c_zRight (va : Value) (x : ZInt) (w : World) (O : Nat → Prop) (ha : kZ.agg w O x va) :
    Calls Tryz.prog 77 #[va] w fun e w' => e = .returned (.bool (zRight x)) ∧ Ext NoB w w' := by
  obtain ⟨A, c, rfl, hl, hm, hr⟩ := z_open ha
  have HA := Lib.hid hr
  clear hr ha
  unfold maxLen at hm
  rcases Nat.eq_zero_or_pos x.digs.length with h0 | h0
  · have e1 := Lib.hid (zRight_nil h0)
    have hb : ((x.digs.length : Int) == 0) = true := by rw [h0]; rfl
    clear h0
    go_enter Tryz.func77, Tryz.ntmps77
    go_wp2_with fail
    go_ret
    exact ⟨retB e1.out.symm, (Ext.refl _ _).alloc _⟩
  · obtain ⟨j, hj⟩ : ∃ j, x.digs.length = j + 1 := ⟨x.digs.length - 1, by omega⟩
    rw [hj] at hl ⊢
    have HJ := Lib.hid hj
    clear hj h0
    have hb : (((j + 1 : Nat) : Int) == 0) = false := by rw [beq_eq_false_iff_ne]; omega
    go_enter Tryz.func77, Tryz.ntmps77
    go_wp2_with fail
    go_loop [4, 15] (fun _ i => ∃ k : Nat, k ≤ j + 1 ∧ i = .int .i64 k ∧ Hid (((x.digs.take k).all fun d => decide (d < 1000000000)) = true)) (fun _ i => j + 1 - (intOf i).toNat)
    case atStart => exact ⟨0, Nat.zero_le _, rfl, Lib.hid rfl⟩
    case round =>
      obtain ⟨k, hk, rfl, HK⟩ := hrel
      by_cases hlt : k < j + 1
      · have hkl : k < x.digs.length := by have := HJ.out; omega
        obtain ⟨b, off, rfl, _, c1, _⟩ := ints_at HA.out hkl
        have l1 := cell_lt c1
        by_cases he : rdI x.digs k < 1000000000
        · have HE := Lib.hid he
          go_wp2_with fail
          exact ⟨⟨k + 1, by omega, by go_num, all_take_succ hkl HK.out (by simpa using HE.out)⟩, by simp [intOf]; omega⟩
        · have e1 := Lib.hid (zRight_bad hkl he)
          go_wp2_with fail
          go_ret
          exact ⟨retB e1.out.symm, (Ext.refl _ _).alloc _⟩
      · have hjl : j < x.digs.length := by have := HJ.out; omega
        obtain ⟨b, off, rfl, _, c1, _⟩ := ints_at HA.out hjl
        have l1 := cell_lt c1
        have h := HK.out
        rw [List.take_of_length_le (by have := HJ.out; omega)] at h
        have e1 := zRight_all (by omega) h
        rw [show x.digs.length - 1 = j by have := HJ.out; omega] at e1
        have E1 := Lib.hid e1
        clear h e1 hjl
        go_wp2_with fail
        go_ret
        exact ⟨retB E1.out.symm, (Ext.refl _ _).alloc _⟩

theorem zRight_all' {x : ZInt} {j : Nat} (hj : x.digs.length = j + 1) (h : (x.digs.all fun d => decide (d < 1000000000)) = true) : zRight x = (rdI x.digs j != 0) := by
  have e1 := zRight_all (by omega) h
  rwa [show x.digs.length - 1 = j by omega] at e1

set_option maxRecDepth 100000 in
set_option maxHeartbeats 400000 in
theorem c_rRight (va : Value) (x : ZInt) (w : World) (O : Nat → Prop) (ha : kZ.agg w O x va) :
    Calls Tryz.prog 50 #[va] w fun e w' => e = .returned (.bool (zRight x)) ∧ Ext NoB w w' := by
  obtain ⟨A, c, rfl, hl, hm, hr⟩ := z_open ha
  have HA := Lib.hid hr
  clear hr ha
  unfold maxLen at hm
  rcases Nat.eq_zero_or_pos x.digs.length with h0 | h0
  · have e1 := Lib.hid (zRight_nil h0)
    rw [h0]
    clear h0 hl
    go_enter Tryz.func50, Tryz.ntmps50
    go_wp2_with fail
    go_loop [3] (fun i => i = .int .i64 0) (fun i => 0)
    case atStart => rfl
    case round =>
      subst hrel
      go_wp2_with fail
      go_ret
      exact ⟨retB e1.out.symm, (Ext.refl _ _).alloc _⟩
  · obtain ⟨j, hj⟩ : ∃ j, x.digs.length = j + 1 := ⟨x.digs.length - 1, by omega⟩
    rw [hj] at hl ⊢
    have HJ := Lib.hid hj
    clear hj h0
    have hb : (((j + 1 : Nat) : Int) == 0) = false := by rw [beq_eq_false_iff_ne]; omega
    go_enter Tryz.func50, Tryz.ntmps50
    go_wp2_with fail
    go_loop [3] (fun i => ∃ k : Nat, k ≤ j + 1 ∧ i = .int .i64 k ∧ Hid (((x.digs.take k).all fun d => decide (d < 1000000000)) = true)) (fun i => j + 1 - (intOf i).toNat)
    case atStart => exact ⟨0, Nat.zero_le _, rfl, Lib.hid rfl⟩
    case round =>
      obtain ⟨k, hk, rfl, HK⟩ := hrel
      by_cases hlt : k < j + 1
      · have hkl : k < x.digs.length := by have := HJ.out; omega
        obtain ⟨b, off, rfl, _, c1, _⟩ := ints_at HA.out hkl
        have l1 := cell_lt c1
        by_cases he : rdI x.digs k < 1000000000
        · have HE := Lib.hid he
          go_wp2_with fail
          exact ⟨⟨k + 1, by omega, by go_num, all_take_succ hkl HK.out (by simpa using HE.out)⟩, by simp [intOf]; omega⟩
        · have e1 := Lib.hid (zRight_bad hkl he)
          go_wp2_with fail
          go_ret
          exact ⟨retB e1.out.symm, (Ext.refl _ _).alloc _⟩
      · have hjl : j < x.digs.length := by have := HJ.out; omega
        obtain ⟨b, off, rfl, _, c1, _⟩ := ints_at HA.out hjl
        have l1 := cell_lt c1
        have h := HK.out
        rw [List.take_of_length_le (by have := HJ.out; omega)] at h
        have E1 := Lib.hid (zRight_all' HJ.out h)
        clear h hjl
        go_wp2_with fail
        go_ret
        exact ⟨retB E1.out.symm, (Ext.refl _ _).alloc _⟩

/-- Is a thing of Bool true? -/
def zYes (x : ZInt) : Bool := decide (0 < x.digs.length)
set_option maxRecDepth 100000 in
set_option maxHeartbeats 400000 in
theorem c_yes (va : Value) (x : ZInt) (w : World) (O : Nat → Prop) (ha : kZ.agg w O x va) :
    Calls Tryz.prog 64 #[va] w fun e w' => e = .returned (.bool (zYes x)) ∧ Ext NoB w w' := by
  obtain ⟨A, c, rfl, hl, hm, hr⟩ := z_open ha
  clear hr ha
  go_enter Tryz.func64, Tryz.ntmps64
  go_wp2_with fail
  go_ret
  exact ⟨retB (by simp [zYes]), (Ext.refl _ _).alloc _⟩
set_option maxRecDepth 100000 in
set_option maxHeartbeats 400000 in
theorem c_no (va : Value) (x : ZInt) (w : World) (O : Nat → Prop) (ha : kZ.agg w O x va) :
    Calls Tryz.prog 90 #[va] w fun e w' => e = .returned (.bool (!zYes x)) ∧ Ext NoB w w' := by
  have ha' := ha
  obtain ⟨A, c, rfl, hl, hm, hr⟩ := z_open ha
  have HA := Lib.hid ha'
  clear hr ha ha'
  go_enter Tryz.func90, Tryz.ntmps90
  go_wp2_with fail
  refine (c_yes _ x _ O (kZ.aggExt HA.out ((Ext.refl _ _).alloc _))).mono ?_
  rintro e w1 ⟨rfl, hx⟩
  have HX := Lib.hid (((Ext.refl _ w).alloc _).trans hx)
  clear hx
  go_wp2_with fail
  go_ret
  exact ⟨rfl, HX.out⟩

/-- One more number into a hash. -/
def mixU (h n : Int) : Int := IntKind.u64.wrap (bits .xor .u64 h n * 1099511628211)
set_option maxRecDepth 100000 in
set_option maxHeartbeats 400000 in
theorem c_mixed (a b : Int) (w : World) : Calls Tryz.prog 113 #[.int .u64 a, .int .u64 b] w fun e w' => e = .returned (.int .u64 (mixU a b)) ∧ w' = w := by
  go_enter Tryz.func113, Tryz.ntmps113
  go_wp2_with fail
  go_ret
  exact ⟨rfl, rfl⟩

end Go.Proofs.YtfpmapbimhdafaaGreatDoor
