/- The laws in plain words: models that give the same. No program in sight. From what the row says of the arguments to how they lie in memory. Contracts: the document's example. What all cards of this seat share. -/
import Derived.Test.YtfpmapbimhdafaaGreatDoorPI
import Derived.ProofKit
import Derived.OpenShut
import Derived.Deep.Slices
import Derived.Lib.SmallJoins
import Derived.LaidMore
import Derived.Stop.Joined
import Derived.Test.YtfpmapbimhdafaaGreatDoorTie
import Derived.Test.YtfpmapbimhdafaaGreatDoorCards
import Derived.SevenTiedAt
namespace Go.Proofs.YtfpmapbimhdafaaGreatDoor
open Go.RowKit
set_option linter.unusedVariables false
set_option linter.unusedSimpArgs false

theorem lookRows_none {args : List ZInt} {els : ZInt} : ∀ {rows : List TRow}, (∀ r ∈ rows, r.args = args → r.value = els) → lookRows args els rows = els
  | [], _ => rfl
  | r :: l, h => by
    rw [lookRows]
    split
    · exact h r (List.mem_cons_self ..) ‹_›
    · exact lookRows_none fun r hr => h r (List.mem_cons_of_mem _ hr)
theorem lookRows_app {args : List ZInt} {els : ZInt} {ys : List TRow} : ∀ {rows : List TRow}, ((∃ r ∈ rows, r.args = args) ∨ ∀ r ∈ ys, r.args = args → r.value = els) → lookRows args els (rows ++ ys) = lookRows args els rows
  | [], h => by
    rcases h with ⟨r, hr, _⟩ | h
    · cases hr
    · exact lookRows_none h
  | r :: l, h => by
    rw [List.cons_append, lookRows, lookRows]
    split
    · rfl
    · rename_i hne
      refine lookRows_app ?_
      rcases h with ⟨x, hx, ha⟩ | h
      · rcases List.mem_cons.1 hx with rfl | hx
        · exact absurd ha hne
        · exact .inl ⟨x, hx, ha⟩
      · exact .inr h
/-- Two models give the same for all arguments. -/
def ModEq (m m' : Model) : Prop := ∀ (i : Int) (kids : List ZInt), lookT (tabAt m i) kids = lookT (tabAt m' i) kids
theorem valueT_eq {m m' : Model} (h : ModEq m m') (t : Term) (kids : List ZInt) : valueT t kids m = valueT t kids m' := by
  rw [valueT, valueT, h]
theorem valsTo_eq {terms : List Term} {m m' : Model} (h : ModEq m m') : ∀ k, valsTo terms m k = valsTo terms m' k
  | 0 => rfl
  | k + 1 => by
    rw [valsTo, valsTo, valsTo_eq h k]
    congr 1
    split
    · rw [valueT_eq h]
    · rfl
/-- One table of a model turned. -/
def setFun (m : Model) (k : Nat) (t : Table) : Model := ⟨m.sizes, m.funs.set k t⟩
theorem tabAt_set {m : Model} {k : Nat} {t : Table} (hk : k < m.funs.length) (i : Int) : tabAt (setFun m k t) i = if i.toNat = k then t else tabAt m i := by
  rw [tabAt, tabAt, setFun]
  simp only [List.getD_eq_getElem?_getD, List.getElem?_set]
  by_cases h : k = i.toNat
  · subst h
    rw [if_pos rfl, if_pos hk, if_pos rfl]
    rfl
  · rw [if_neg h, if_neg (fun e => h e.symm)]
theorem modEq_set {m : Model} {k : Nat} {t : Table} (hk : k < m.funs.length) (h : ∀ kids, lookT (tabAt m (k : Int)) kids = lookT t kids) : ModEq m (setFun m k t) := fun i kids => by
  rw [tabAt_set hk]
  split
  · rename_i e
    rw [← h, ← e, tabAt, tabAt, Int.toNat_natCast]
  · rfl

/-! Rows behind one that has the same arguments. -/
/-- The rows that are added: each has a row's arguments, and gives what else is given. -/
def Behind (t : Table) (ys : List TRow) : Prop := ∀ y ∈ ys, (∃ r ∈ t.rows, y.args = r.args) ∧ y.value = t.els
theorem Behind.nil (t : Table) : Behind t [] := fun y hy => by cases hy
theorem Behind.snoc {t : Table} {ys : List TRow} {y r : TRow} (h : Behind t ys) (hr : r ∈ t.rows) (ha : y.args = r.args) (hv : y.value = t.els) : Behind t (ys ++ [y]) := fun x hx => by
  rcases List.mem_append.1 hx with hx | hx
  · exact h x hx
  · rw [List.mem_singleton.1 hx]
    exact ⟨⟨r, hr, ha⟩, hv⟩
theorem Behind.look {t : Table} {ys : List TRow} (h : Behind t ys) (kids : List ZInt) : lookT t kids = lookT ⟨t.rows ++ ys, t.els⟩ kids := by
  rw [lookT, lookT]
  refine (lookRows_app (.inr fun y hy _ => (h y hy).2)).symm
theorem funs_at {d : Dump} {m : Model} {n k : Nat} (h : funsTo d m n = true) (hk : k < n) : funB d m k = true := by
  cases hz : funB d m k with
  | true => rfl
  | false => rw [funsTo_false hz n hk] at h; cases h
theorem funsTo_all {d : Dump} {m : Model} : ∀ {n : Nat}, (∀ k, k < n → funB d m k = true) → funsTo d m n = true
  | 0, _ => rfl
  | n + 1, h => by rw [funsTo, funsTo_all (fun k hk => h k (by omega)), h n (by omega)]; rfl
theorem modelB_iff {d : Dump} {m : Model} : modelB d m = true ↔ m.sizes.length = d.sorts.length ∧ m.funs.length = d.funs.length ∧ sizesTo m.sizes m.sizes.length = true ∧ funsTo d m d.funs.length = true := by
  rw [modelB, Bool.and_eq_true, Bool.and_eq_true, Bool.and_eq_true, decide_eq_true_eq, decide_eq_true_eq]
theorem fitsB_iff {f : Fun} {t : Table} {sizes : List Int} : fitsB f t sizes = true ↔ (∀ r ∈ t.rows, rowB f sizes r = true) ∧ thingB t.els f.result.toNat sizes = true := by
  rw [fitsB, Bool.and_eq_true, List.all_eq_true]
theorem rowB_iff {f : Fun} {sizes : List Int} {r : TRow} : rowB f sizes r = true ↔ r.args.length = f.args.length ∧ thingB r.value f.result.toNat sizes = true ∧ argsTo f.args r.args sizes r.args.length = true := by
  rw [rowB, Bool.and_eq_true, Bool.and_eq_true, decide_eq_true_eq]
theorem tabAt_mem {m : Model} {k : Nat} (hk : k < m.funs.length) : tabAt m (k : Int) ∈ m.funs := by
  obtain ⟨t, ht⟩ := at_some hk
  rw [tabAt_eq ht]
  exact List.mem_of_getElem? ht
theorem Behind.right {d : Dump} {m : Model} {k : Nat} {t : Table} {ys : List TRow} (hk : m.funs[k]? = some t) (h : Behind t ys) (hr : modelB d m = true) : modelB d (setFun m k ⟨t.rows ++ ys, t.els⟩) = true := by
  obtain ⟨h1, h2, h3, h4⟩ := modelB_iff.1 hr
  have hkl := (List.getElem?_eq_some_iff.1 hk).1
  refine modelB_iff.2 ⟨h1, by simpa [setFun] using h2, h3, funsTo_all fun j hj => ?_⟩
  have hf := funs_at h4 hj
  rw [funB] at hf ⊢
  rw [tabAt_set hkl, Int.toNat_natCast]
  split
  · subst j
    rw [tabAt_eq hk] at hf
    obtain ⟨a, b⟩ := fitsB_iff.1 hf
    refine fitsB_iff.2 ⟨fun r hr => ?_, b⟩
    rcases List.mem_append.1 hr with hr | hr
    · exact a r hr
    · obtain ⟨⟨r0, hr0, he⟩, hv⟩ := h r hr
      obtain ⟨c1, c2, c3⟩ := rowB_iff.1 (a r0 hr0)
      exact rowB_iff.2 ⟨by rw [he]; exact c1, by rw [hv]; exact b, by rw [he]; exact c3⟩
  · exact hf
theorem Behind.small {m : Model} {k : Nat} {t : Table} {ys : List TRow} (hk : m.funs[k]? = some t) (h : Behind t ys) (hm : ModSm m) : ModSm (setFun m k ⟨t.rows ++ ys, t.els⟩) := by
  intro x hx
  have ht := hm t (List.mem_of_getElem? hk)
  rcases List.mem_or_eq_of_mem_set hx with hx | rfl
  · exact hm x hx
  · refine ⟨ht.1, fun r hr => ?_⟩
    rcases List.mem_append.1 hr with hr | hr
    · exact ht.2 r hr
    · obtain ⟨⟨r0, hr0, he⟩, hv⟩ := h r hr
      exact ⟨by rw [hv]; exact ht.1, by rw [he]; exact (ht.2 r0 hr0).2⟩
theorem Behind.ok {d : Dump} {m : Model} {k : Nat} {t : Table} {ys : List TRow} (hk : m.funs[k]? = some t) (h : Behind t ys) (hm : EvOk d m) : EvOk d (setFun m k ⟨t.rows ++ ys, t.els⟩) := ⟨hm.small, hm.load, hm.wild, h.small hk hm.mod, h.right hk hm.right⟩
theorem Behind.vals {terms : List Term} {m : Model} {k : Nat} {t : Table} {ys : List TRow} (hk : m.funs[k]? = some t) (h : Behind t ys) (n : Nat) : valsTo terms m n = valsTo terms (setFun m k ⟨t.rows ++ ys, t.els⟩) n :=
  valsTo_eq (modEq_set (List.getElem?_eq_some_iff.1 hk).1 fun kids => by rw [tabAt_eq hk]; exact h.look kids) n

/-! A model's numbers as they must be. -/
/-- A model's digits are digits. -/
def ModDig (m : Model) : Prop := ∀ t ∈ m.funs, (zRight t.els = true → DigR t.els.digs) ∧ ∀ r ∈ t.rows, (zRight r.value = true → DigR r.value.digs) ∧ ∀ x ∈ r.args, zRight x = true → DigR x.digs
theorem thing_right {x : ZInt} {s : Nat} {sizes : List Int} (h : thingB x s sizes = true) : zRight x = true := by
  rw [thingB, Bool.and_eq_true] at h
  exact h.1
theorem args_at {sorts : List Int} {args : List ZInt} {sizes : List Int} {n k : Nat} (h : argsTo sorts args sizes n = true) (hk : k < n) : thingB (atZ args k) (rdI sorts k).toNat sizes = true := by
  cases hz : thingB (atZ args k) (rdI sorts k).toNat sizes with
  | true => rfl
  | false => rw [argsTo_false hz n hk] at h; cases h
theorem mod_sm {d : Dump} {m : Model} (hr : modelB d m = true) (hl : ModLen m) (hd : ModDig m) : ModSm m := by
  obtain ⟨h1, h2, h3, h4⟩ := modelB_iff.1 hr
  intro t ht
  obtain ⟨k, hk⟩ := List.getElem?_of_mem ht
  have hkl := (List.getElem?_eq_some_iff.1 hk).1
  have hf := funs_at h4 (show k < d.funs.length by omega)
  rw [funB, tabAt_eq hk] at hf
  obtain ⟨a, b⟩ := fitsB_iff.1 hf
  obtain ⟨l1, l2, l3⟩ := hl.2.2 t ht
  obtain ⟨g1, g2⟩ := hd t ht
  refine ⟨⟨⟨thing_right b, g1 (thing_right b)⟩, l2⟩, fun r hr => ?_⟩
  obtain ⟨c1, c2, c3⟩ := rowB_iff.1 (a r hr)
  obtain ⟨n1, n2, n3⟩ := l3 r hr
  obtain ⟨e1, e2⟩ := g2 r hr
  refine ⟨⟨⟨thing_right c2, e1 (thing_right c2)⟩, n2⟩, fun x hx => ?_⟩
  obtain ⟨j, hj⟩ := List.getElem?_of_mem hx
  have hz := args_at c3 (List.getElem?_eq_some_iff.1 hj).1
  rw [atZ_eq hj] at hz
  exact ⟨⟨thing_right hz, e2 x hx (thing_right hz)⟩, n3 x hx⟩
theorem and_mask (fi : Int) : ∃ a : Nat, bits .and .i64 fi 65535 = (a : Int) := by
  refine ⟨(BitVec.ofInt 64 fi &&& BitVec.ofInt 64 65535).toNat, ?_⟩
  have h : (BitVec.ofInt 64 fi &&& BitVec.ofInt 64 65535).toNat ≤ 65535 := by
    rw [BitVec.toNat_and]
    exact Nat.and_le_right
  have hb : bits .and .i64 fi 65535 = IntKind.i64.wrap ((BitVec.ofInt 64 fi &&& BitVec.ofInt 64 65535).toNat : Int) := rfl
  rw [hb, IntKind.wrap_i64]
  generalize (BitVec.ofInt 64 fi &&& BitVec.ofInt 64 65535).toNat = b at *
  omega
theorem Own.turn {α : Type} {k : Kd α} {w : World} {base : Nat} {e : TypeId} {O O' : Nat → Prop} {v : Value} {xs : List α} (h : Own w base e k O v xs) (ho : ∀ b, b < w.heap.size → O' b → O b) : Own w base e k O' v xs := by
  obtain ⟨css, h1, h2⟩ := h
  exact ⟨css, h1, h2.mono fun x cs hx => k.turn hx fun b hb h => h.elim (fun h => .inl (ho b hb h)) .inr⟩
/-- One cell of an element turned. -/
theorem Own.setAt {α : Type} {k : Kd α} {W : World} {base g n c : Nat} {e : TypeId} {O : Nat → Prop} {xs : List α} (h : Own W base e k O (.slice (some ⟨g, 0, none⟩) n c) xs) {i j : Nat} {x y : α} {u : Value} (hi : xs[i]? = some x) (hj : j < k.size)
    (hy : ∀ cs, k.rep W (PlusV O (.slice (some ⟨g, 0, none⟩) n c)) x cs → k.rep W (PlusV O (.slice (some ⟨g, 0, none⟩) n c)) y (cs.set j u)) :
    Own (W.setCell ⟨g, i * k.size + j, none⟩ u) base e k O (.slice (some ⟨g, 0, none⟩) n c) (xs.set i y) ∧ Ext (fun b => b = g) W (W.setCell ⟨g, i * k.size + j, none⟩ u) := by
  have hE : Ext (fun b => b = g) W (W.setCell ⟨g, i * k.size + j, none⟩ u) := (Ext.refl (fun b => b = g) W).setO (p := ⟨g, i * k.size + j, none⟩) rfl _
  obtain ⟨css, h1, h2⟩ := h
  have hs : ∀ c ∈ css, c.length = k.size := fun c hc => by
    obtain ⟨y, _, hy⟩ := h2.mem c hc
    exact k.len hy
  have hl : css.length = xs.length := h2.length.symm
  have hn : n = xs.length := by
    rcases h1.2 with ⟨h, _⟩ | ⟨_, _, _, h, _⟩
    · cases h
    · injection h
  subst hn
  have hil := (List.getElem?_eq_some_iff.1 hi).1
  obtain ⟨cs, hcs, hr⟩ := h2.at_ i x hi
  have s1 := (h1.stored (i * k.size + j) u).1
  refine ⟨⟨css.set i (cs.set j u), ?_, ?_⟩, hE⟩
  · rw [List.length_set]
    have f1 := flat_set hs i j u (by omega) hj
    rw [f1] at s1
    rw [show css.getD i [] = cs by rw [List.getD_eq_getElem?_getD, hcs]; rfl] at s1
    exact s1
  · refine (h2.set i (hy cs hr)).mono fun y cs hy => k.keep hy fun b hb hnb => ⟨hnb, hE.block b hb fun hO => hnb (.inr (by rw [hO]; rfl))⟩
/-- The table that is picked. -/
theorem pick_lt (fi : Int) {n : Nat} (hn : 0 < n) : ∃ k : Nat, k < n ∧ (bits .and .i64 fi 65535).tmod (n : Int) = (k : Int) := by
  obtain ⟨a, ha⟩ := and_mask fi
  exact ⟨a % n, Nat.mod_lt _ hn, by rw [ha]; exact (Int.ofNat_tmod a n).symm⟩
theorem info_Table : (Tryz.prog.info? 58).map (fun i => (i.zero, i.size, i.bytes)) = some (some (.agg #[.slice none 0 0, .bool false, .slice none 0 0]), 3, 56) := by kernel_rfl
theorem info_Row : (Tryz.prog.info? 60).map (fun i => (i.zero, i.size, i.bytes)) = some (some (.agg #[.slice none 0 0, .bool false, .slice none 0 0]), 3, 56) := by kernel_rfl
section
variable {w : World} {O : Nat → Prop}
theorem digs_of {z : ZInt} {v : Value} (h : kDigs.one w O z.digs v) (hz : zRight z = true) : DigR z.digs := z_digR (zv_mk h) hz
/-- What lies in memory has digits that are digits. -/
theorem mod_dig {m : Model} {vm : Value} (h : kModel.agg w O m vm) : ModDig m := by
  obtain ⟨A1, c1, A2, c2, rfl, _, ht⟩ := model_open h
  obtain ⟨_, _, _, _, _, hr⟩ := Kd.one_slice ht
  intro t htm
  obtain ⟨k, hk⟩ := List.getElem?_of_mem htm
  obtain ⟨b, off, _, _, hrow⟩ := hr (ne_nil_of_lt (List.getElem?_eq_some_iff.1 hk).1)
  obtain ⟨_, _, _, _, _, hrows, hels⟩ := row_table' hrow hk
  refine ⟨digs_of hels, fun r hrm => ?_⟩
  obtain ⟨_, _, _, _, _, hr⟩ := Kd.one_slice hrows
  obtain ⟨j, hj⟩ := List.getElem?_of_mem hrm
  obtain ⟨b, off, _, _, hrow⟩ := hr (ne_nil_of_lt (List.getElem?_eq_some_iff.1 hj).1)
  obtain ⟨_, _, _, _, _, hargs, hval⟩ := row_row hrow hj
  refine ⟨z_digR hval, fun x hx => ?_⟩
  obtain ⟨_, _, _, _, _, hr⟩ := Kd.one_slice hargs
  obtain ⟨i, hi⟩ := List.getElem?_of_mem hx
  obtain ⟨b, off, _, _, hrow⟩ := hr (ne_nil_of_lt (List.getElem?_eq_some_iff.1 hi).1)
  obtain ⟨_, _, _, hd⟩ := row_z hrow hi
  exact digs_of hd
end
end Go.Proofs.YtfpmapbimhdafaaGreatDoor

namespace Go.Proofs.YtfpmapbimhdafaaGreatDoor
open Go.RowKit
open Go.ChangeShapes Go.WideShapes
set_option linter.unusedVariables false
set_option linter.unusedSimpArgs false

section
variable {H : Type} {enc : TypeId × Value → H} {P : Program} {W : World} {fuel : Nat} {cs : List Value} {x : DataW H × List MemPlace}
/-- Whatever reads as data of a type lies as a kind. -/
def Reads {α : Type} (k : Kd α) (P : Program) (t : TypeId) : Prop := P.cellsOf t = k.size ∧ ∀ {H : Type} (enc : TypeId × Value → H) (W : World) (fuel : Nat) (cs : List Value) (x : DataW H × List MemPlace), DataW.trod enc P W 0 (fun _ => true) true fuel t cs = some x → ∃ y, k.rep W NoB y cs
theorem reads_int {ik : IntKind} {t : TypeId} (ht : P.underlying t = some (.int ik)) (hc : P.cellsOf t = 1) : Reads (Kd.int ik) P t := ⟨hc, fun enc W fuel cs x h => by
  obtain ⟨n, rfl, _, hw⟩ := DataW.trod_int ht h
  exact ⟨n, rfl, hw⟩⟩
theorem reads_bool {t : TypeId} (ht : P.underlying t = some .bool) (hc : P.cellsOf t = 1) : Reads Kd.bool P t := ⟨hc, fun enc W fuel cs x h => by
  obtain ⟨b, rfl, _⟩ := DataW.trod_bool ht h
  exact ⟨b, rfl⟩⟩
theorem reads_str {t : TypeId} (ht : P.underlying t = some .string) (hc : P.cellsOf t = 1) : Reads Kd.str P t := ⟨hc, fun enc W fuel cs x h => by
  obtain ⟨s, rfl, _, hm⟩ := DataW.trod_string ht h
  exact ⟨s, rfl, hm⟩⟩
theorem reads_slice {α : Type} {k : Kd α} {pos : 0 < k.size} {t e : TypeId} (ht : P.underlying t = some (.slice e)) (hc : P.cellsOf t = 1) (he : Reads k P e) : Reads (k.slice pos) P t := ⟨hc, fun enc W fuel cs x h => by
  rcases Deep.open_slice ht h with ⟨rfl, _⟩ | ⟨a, len, cap, m, n, D, Pl, rfl, _, hl, hm, hmm, _, hx⟩
  · exact ⟨[], Kd.nil_mk⟩
  · have hlm : len ≤ m := by rw [hmm]; split <;> omega
    have hex : ∀ i, i < len → ∃ y, ∃ cs', W.cells? 0 (a.add (i * P.cellsOf e)) (P.cellsOf e) = some cs' ∧ k.rep W NoB y cs' := fun i hi => by
      obtain ⟨cs', h1, h2⟩ := hx i (by omega)
      obtain ⟨y, hy⟩ := he.2 enc W _ _ _ h2
      exact ⟨y, cs', h1, hy⟩
    rcases Nat.eq_zero_or_pos len with h0 | h0
    · subst h0
      exact ⟨[], some a, cap, rfl, hl, hm, fun h => absurd rfl h⟩
    · obtain ⟨y0, cs0, hc0, hr0⟩ := hex 0 h0
      have : Inhabited α := ⟨y0⟩
      obtain ⟨Y, hY⟩ := Deep.choose_lt hex
      obtain ⟨b, off, spot⟩ := a
      obtain ⟨_, hl0, hcell0⟩ := World.cells?_some hc0
      have hs : 0 < P.cellsOf e := by rw [he.1]; exact pos
      have h00 := hcell0 0 hs
      rw [List.getElem?_eq_getElem (by omega)] at h00
      have hspot : spot = none := by simpa [Addr.add] using World.cell?_spot h00
      subst hspot
      refine ⟨(List.range len).map Y, some ⟨b, off, none⟩, cap, by rw [List.length_map, List.length_range], by rw [List.length_map, List.length_range]; exact hl, hm, fun _ => ⟨b, off, rfl, id, fun i y hy => ?_⟩⟩
      have hi : i < len := by
        have := (List.getElem?_eq_some_iff.1 hy).1
        rwa [List.length_map, List.length_range] at this
      obtain ⟨cs', h1, h2⟩ := hY i hi
      have hyi : y = Y i := by
        rw [List.getElem?_map, List.getElem?_range hi] at hy
        exact (Option.some.inj hy).symm
      subst hyi
      obtain ⟨_, hl1, hcell⟩ := World.cells?_some h1
      refine ⟨cs', h2, fun j v hj => ?_⟩
      have hjl : j < P.cellsOf e := by
        have := (List.getElem?_eq_some_iff.1 hj).1
        omega
      have := hcell j hjl
      rw [hj, add_at, add_at, he.1] at this
      exact this⟩
/-- An argument that is a struct. -/
theorem agg_of {α : Type} {k : Kd α} {t : TypeId} {fs : Array Field} {r : Reach} {b0 : Nat} {v : Value} {d : DataW H} {p : List MemPlace} (hs : P.underlying t = some (.struct fs)) (hv : Value.okWide P W r b0 t v) (h : DataW.Trod enc P W 0 (fun _ => true) true t v d p) (hr : Reads k P t) : ∃ y, k.agg W NoB y v := by
  obtain ⟨cs, rfl, hsz⟩ := okWide_struct hs hv
  obtain ⟨fuel, hf⟩ := h
  obtain ⟨y, hy⟩ := hr.2 enc W _ _ _ hf
  exact ⟨y, cs.toList, by simp, by simpa [Value.cells] using hy⟩
theorem slice_of {α : Type} {k : Kd α} {pos : 0 < k.size} {t e : TypeId} {r : Reach} {b0 : Nat} {v : Value} {d : DataW H} {p : List MemPlace} (hs : P.underlying t = some (.slice e)) (hv : Value.okWide P W r b0 t v) (h : DataW.Trod enc P W 0 (fun _ => true) true t v d p) (hr : Reads (k.slice pos) P t) : ∃ y, (k.slice pos).one W NoB y v := by
  obtain ⟨a, l, c, rfl⟩ := okWide_slice hs hv
  obtain ⟨fuel, hf⟩ := h
  obtain ⟨y, hy⟩ := hr.2 enc W _ _ _ hf
  exact ⟨y, by simpa [Value.cells, Kd.one] using hy⟩
end

theorem list2 {α : Type} {l : List α} (h : l.length = 2) : ∃ a b, l = [a, b] := by
  match l, h with
  | [a, b], _ => exact ⟨a, b, rfl⟩
theorem list3 {α : Type} {l : List α} (h : l.length = 3) : ∃ a b c, l = [a, b, c] := by
  match l, h with
  | [a, b, c], _ => exact ⟨a, b, c, rfl⟩
theorem list4 {α : Type} {l : List α} (h : l.length = 4) : ∃ a b c d, l = [a, b, c, d] := by
  match l, h with
  | [a, b, c, d], _ => exact ⟨a, b, c, d, rfl⟩
theorem list5 {α : Type} {l : List α} (h : l.length = 5) : ∃ a b c d e, l = [a, b, c, d, e] := by
  match l, h with
  | [a, b, c, d, e], _ => exact ⟨a, b, c, d, e, rfl⟩
/-- A struct's field, read. -/
theorem field_of {H : Type} {enc : TypeId × Value → H} {W : World} {fuel : Nat} {t : TypeId} {fs : Array Field} {cs : List Value} {x : DataW H × List MemPlace} (ht : Tryz.prog.underlying t = some (.struct fs)) (h : DataW.trod enc Tryz.prog W 0 (fun _ => true) true fuel t cs = some x) :
    cs.length = Tryz.prog.cellsOf t ∧ ∀ {α : Type} {k : Kd α} (i : Nat) (f : Field), fs[i]? = some f → Reads k Tryz.prog f.type → ∃ y, k.rep W NoB y ((cs.drop f.offset).take k.size) := by
  obtain ⟨xs, n, _, _, hl, hlen, hf⟩ := DataW.trod_struct ht h
  refine ⟨hl, fun {α k} i f hi hr => ?_⟩
  have h1 := hf i f hi
  rw [List.getElem?_eq_getElem (by rw [hlen]; exact (Array.getElem?_eq_some_iff.1 hi).1)] at h1
  have h2 := hr.2 enc W _ _ _ h1
  rwa [hr.1] at h2

theorem cI : Tryz.prog.cellsOf 3 = 1 := by kernel_rfl
theorem cU : Tryz.prog.cellsOf 101 = 1 := by kernel_rfl
theorem cB : Tryz.prog.cellsOf 4 = 1 := by kernel_rfl
theorem cS : Tryz.prog.cellsOf 9 = 1 := by kernel_rfl
theorem cIs : Tryz.prog.cellsOf 28 = 1 := by kernel_rfl
theorem cUs : Tryz.prog.cellsOf 48 = 1 := by kernel_rfl
theorem cZ : Tryz.prog.cellsOf 50 = 2 := by kernel_rfl
theorem cZs : Tryz.prog.cellsOf 38 = 1 := by kernel_rfl
theorem rI : Reads kInt Tryz.prog 3 := reads_int Tryz.underlying3 cI
theorem rU : Reads kU Tryz.prog 101 := reads_int Tryz.underlying101 cU
theorem rB : Reads Kd.bool Tryz.prog 4 := reads_bool Tryz.underlying4 cB
theorem rS : Reads Kd.str Tryz.prog 9 := reads_str Tryz.underlying9 cS
theorem rIs : Reads kInts Tryz.prog 28 := reads_slice Tryz.underlying28 cIs rI
theorem rUs : Reads kDigs Tryz.prog 48 := reads_slice Tryz.underlying48 cUs rU
theorem rZ : Reads kZ Tryz.prog 50 := ⟨cZ, fun enc W fuel cs x h => by
  obtain ⟨hl, hf⟩ := field_of Tryz.underlying50 h
  obtain ⟨y0, h0⟩ := hf (k := Kd.bool) 0 _ rfl rB
  obtain ⟨y1, h1⟩ := hf (k := kDigs) 1 _ rfl rUs
  rw [cZ] at hl
  obtain ⟨a, b, rfl⟩ := list2 hl
  exact ⟨⟨y0, y1⟩, [a], [b], rfl, h0, h1⟩⟩
theorem rZs : Reads kZs Tryz.prog 38 := reads_slice Tryz.underlying38 cZs rZ
theorem cSrt : Tryz.prog.cellsOf 74 = 2 := by kernel_rfl
theorem cFun : Tryz.prog.cellsOf 71 = 3 := by kernel_rfl
theorem cTerm : Tryz.prog.cellsOf 63 = 4 := by kernel_rfl
theorem cCmd : Tryz.prog.cellsOf 76 = 5 := by kernel_rfl
theorem cDump : Tryz.prog.cellsOf 27 = 4 := by kernel_rfl
theorem cRow : Tryz.prog.cellsOf 60 = 3 := by kernel_rfl
theorem cTable : Tryz.prog.cellsOf 58 = 3 := by kernel_rfl
theorem cModel : Tryz.prog.cellsOf 31 = 2 := by kernel_rfl
theorem cSrts : Tryz.prog.cellsOf 22 = 1 := by kernel_rfl
theorem cFuns : Tryz.prog.cellsOf 23 = 1 := by kernel_rfl
theorem cTerms : Tryz.prog.cellsOf 24 = 1 := by kernel_rfl
theorem cCmds : Tryz.prog.cellsOf 25 = 1 := by kernel_rfl
theorem cRows : Tryz.prog.cellsOf 56 = 1 := by kernel_rfl
theorem cTables : Tryz.prog.cellsOf 29 = 1 := by kernel_rfl
theorem rSrt : Reads kSrt Tryz.prog 74 := ⟨cSrt, fun enc W fuel cs x h => by
  obtain ⟨hl, hf⟩ := field_of Tryz.underlying74 h
  obtain ⟨y0, h0⟩ := hf (k := Kd.str) 0 _ rfl rS
  obtain ⟨y1, h1⟩ := hf (k := kInts) 1 _ rfl rIs
  rw [cSrt] at hl
  obtain ⟨a, b, rfl⟩ := list2 hl
  exact ⟨⟨y0, y1⟩, [a], [b], rfl, h0, h1⟩⟩
theorem rFun : Reads kFun Tryz.prog 71 := ⟨cFun, fun enc W fuel cs x h => by
  obtain ⟨hl, hf⟩ := field_of Tryz.underlying71 h
  obtain ⟨y0, h0⟩ := hf (k := Kd.str) 0 _ rfl rS
  obtain ⟨y1, h1⟩ := hf (k := kInts) 1 _ rfl rIs
  obtain ⟨y2, h2⟩ := hf (k := kInt) 2 _ rfl rI
  rw [cFun] at hl
  obtain ⟨a, b, c, rfl⟩ := list3 hl
  exact ⟨⟨y0, y1, y2⟩, [a], [b, c], rfl, h0, [b], [c], rfl, h1, h2⟩⟩
theorem rTerm : Reads kTerm Tryz.prog 63 := ⟨cTerm, fun enc W fuel cs x h => by
  obtain ⟨hl, hf⟩ := field_of Tryz.underlying63 h
  obtain ⟨y0, h0⟩ := hf (k := kInt) 0 _ rfl rI
  obtain ⟨y1, h1⟩ := hf (k := kInt) 1 _ rfl rI
  obtain ⟨y2, h2⟩ := hf (k := kInts) 2 _ rfl rIs
  obtain ⟨y3, h3⟩ := hf (k := Kd.str) 3 _ rfl rS
  rw [cTerm] at hl
  obtain ⟨a, b, c, d, rfl⟩ := list4 hl
  exact ⟨⟨y0, y1, y2, y3⟩, [a], [b, c, d], rfl, h0, [b], [c, d], rfl, h1, [c], [d], rfl, h2, h3⟩⟩
theorem rCmd : Reads kCmd Tryz.prog 76 := ⟨cCmd, fun enc W fuel cs x h => by
  obtain ⟨hl, hf⟩ := field_of Tryz.underlying76 h
  obtain ⟨y0, h0⟩ := hf (k := kInt) 0 _ rfl rI
  obtain ⟨y1, h1⟩ := hf (k := kInt) 1 _ rfl rI
  obtain ⟨y2, h2⟩ := hf (k := Kd.str) 2 _ rfl rS
  obtain ⟨y3, h3⟩ := hf (k := kInt) 3 _ rfl rI
  obtain ⟨y4, h4⟩ := hf (k := kInt) 4 _ rfl rI
  rw [cCmd] at hl
  obtain ⟨a, b, c, d, e, rfl⟩ := list5 hl
  exact ⟨⟨y0, y1, y2, y3, y4⟩, [a], [b, c, d, e], rfl, h0, [b], [c, d, e], rfl, h1, [c], [d, e], rfl, h2, [d], [e], rfl, h3, h4⟩⟩
theorem rSrts : Reads kSrts Tryz.prog 22 := reads_slice Tryz.underlying22 cSrts rSrt
theorem rFuns : Reads kFuns Tryz.prog 23 := reads_slice Tryz.underlying23 cFuns rFun
theorem rTerms : Reads kTerms Tryz.prog 24 := reads_slice Tryz.underlying24 cTerms rTerm
theorem rCmds : Reads kCmds Tryz.prog 25 := reads_slice Tryz.underlying25 cCmds rCmd
theorem rDump : Reads kDump Tryz.prog 27 := ⟨cDump, fun enc W fuel cs x h => by
  obtain ⟨hl, hf⟩ := field_of Tryz.underlying27 h
  obtain ⟨y0, h0⟩ := hf (k := kSrts) 0 _ rfl rSrts
  obtain ⟨y1, h1⟩ := hf (k := kFuns) 1 _ rfl rFuns
  obtain ⟨y2, h2⟩ := hf (k := kTerms) 2 _ rfl rTerms
  obtain ⟨y3, h3⟩ := hf (k := kCmds) 3 _ rfl rCmds
  rw [cDump] at hl
  obtain ⟨a, b, c, d, rfl⟩ := list4 hl
  exact ⟨⟨y0, y1, y2, y3⟩, [a], [b, c, d], rfl, h0, [b], [c, d], rfl, h1, [c], [d], rfl, h2, h3⟩⟩
theorem rRow : Reads kRow Tryz.prog 60 := ⟨cRow, fun enc W fuel cs x h => by
  obtain ⟨hl, hf⟩ := field_of Tryz.underlying60 h
  obtain ⟨y0, h0⟩ := hf (k := kZs) 0 _ rfl rZs
  obtain ⟨y1, h1⟩ := hf (k := kZ) 1 _ rfl rZ
  rw [cRow] at hl
  obtain ⟨a, b, c, rfl⟩ := list3 hl
  exact ⟨⟨y0, y1⟩, [a], [b, c], rfl, h0, h1⟩⟩
theorem rRows : Reads kRows Tryz.prog 56 := reads_slice Tryz.underlying56 cRows rRow
theorem rTable : Reads kTable Tryz.prog 58 := ⟨cTable, fun enc W fuel cs x h => by
  obtain ⟨hl, hf⟩ := field_of Tryz.underlying58 h
  obtain ⟨y0, h0⟩ := hf (k := kRows) 0 _ rfl rRows
  obtain ⟨y1, h1⟩ := hf (k := kZ) 1 _ rfl rZ
  rw [cTable] at hl
  obtain ⟨a, b, c, rfl⟩ := list3 hl
  exact ⟨⟨y0, y1⟩, [a], [b, c], rfl, h0, h1⟩⟩
theorem rTables : Reads kTables Tryz.prog 29 := reads_slice Tryz.underlying29 cTables rTable
theorem rModel : Reads kModel Tryz.prog 31 := ⟨cModel, fun enc W fuel cs x h => by
  obtain ⟨hl, hf⟩ := field_of Tryz.underlying31 h
  obtain ⟨y0, h0⟩ := hf (k := kInts) 0 _ rfl rIs
  obtain ⟨y1, h1⟩ := hf (k := kTables) 1 _ rfl rTables
  rw [cModel] at hl
  obtain ⟨a, b, rfl⟩ := list2 hl
  exact ⟨⟨y0, y1⟩, [a], [b], rfl, h0, h1⟩⟩
end Go.Proofs.YtfpmapbimhdafaaGreatDoor

namespace Go.Proofs.YtfpmapbimhdafaaGreatDoor
open Go.RowKit
set_option linter.unusedVariables false
set_option linter.unusedSimpArgs false

/-- The example's script and its model. -/
def xName : ByteArray := ⟨#[120]⟩
def xSix : ByteArray := ⟨#[54]⟩
def exD : Dump := ⟨[⟨nBool, []⟩, ⟨nInt, []⟩], [⟨xName, [], 1⟩], [⟨3, 0, [], ⟨#[]⟩⟩, ⟨4, 0, [], xSix⟩, ⟨14, 0, [0, 1], ⟨#[]⟩⟩], [⟨4, 0, ⟨#[]⟩, 0, 2⟩, ⟨5, 0, ⟨#[]⟩, 0, 0⟩]⟩
def exM : Model := ⟨[0, 0], [⟨[], ofN 5⟩]⟩
theorem exD_small : Small exD where
  ns := by decide
  nf := by decide
  nt := by decide
  nc := by decide
  so := by
    intro s hs
    simp only [exD, List.mem_cons, List.not_mem_nil, or_false] at hs
    rcases hs with rfl | rfl <;> exact ⟨by decide, by decide⟩
  fu := by
    intro s hs
    simp only [exD, List.mem_cons, List.not_mem_nil, or_false] at hs
    subst hs
    exact ⟨by decide, by decide⟩
  te := by
    intro s hs
    simp only [exD, List.mem_cons, List.not_mem_nil, or_false] at hs
    rcases hs with rfl | rfl | rfl <;> exact ⟨by decide, by decide⟩
  co := by
    intro s hs
    simp only [exD, List.mem_cons, List.not_mem_nil, or_false] at hs
    rcases hs with rfl | rfl <;> decide
theorem exT0 : TermOk exD.funs 0 [] [] ⟨3, 0, [], ⟨#[]⟩⟩ where
  op := by decide
  fn := by decide
  num := fun h => absurd h (by decide)
  nonum := fun _ => rfl
  app := fun _ => ⟨by decide, by decide, by decide⟩
  kids := fun k hk => absurd hk (Nat.not_lt_zero _)
  none := by decide
  one := by decide
  three := by decide
  some := by decide
  two := fun _ _ h => absurd rfl h
  sort := fun k hk => absurd hk (Nat.not_lt_zero _)
  prod := fun h => absurd h (by decide)
theorem exT1 (ofs : List Int) (consts : List Bool) : TermOk exD.funs 1 ofs consts ⟨4, 0, [], xSix⟩ where
  op := by decide
  fn := fun _ => rfl
  num := fun _ => ⟨⟨by decide, by decide, fun k hk => by
    have hk : k < 1 := hk
    obtain rfl : k = 0 := by omega
    decide⟩, by decide⟩
  nonum := fun h => absurd rfl h
  app := fun h => absurd h (by decide)
  kids := fun k hk => absurd hk (Nat.not_lt_zero _)
  none := by decide
  one := by decide
  three := by decide
  some := by decide
  two := fun _ _ _ h => absurd rfl h
  sort := fun k hk => absurd hk (Nat.not_lt_zero _)
  prod := fun h => absurd h (by decide)
theorem exT2 (consts : List Bool) : TermOk exD.funs 2 [1, 1] consts ⟨14, 0, [0, 1], ⟨#[]⟩⟩ where
  op := by decide
  fn := fun _ => rfl
  num := fun h => absurd h (by decide)
  nonum := fun _ => rfl
  app := fun h => absurd h (by decide)
  kids := fun k hk => by
    have hk : k < 2 := hk
    rcases k with _ | _ | k
    · decide
    · decide
    · omega
  none := by decide
  one := by decide
  three := by decide
  some := by decide
  two := fun _ _ _ _ _ _ _ => by decide
  sort := fun k hk => by
    have hk : k < 2 := hk
    rcases k with _ | _ | k
    · decide
    · decide
    · omega
  prod := fun h => absurd h (by decide)
theorem exD_load : LoadOk exD where
  two := by decide
  bool := rfl
  int := rfl
  sorts := fun i s h2 hi => by
    rcases i with _ | _ | i
    · omega
    · omega
    · simp [exD] at hi
  funs := by
    intro s hs
    simp only [exD, List.mem_cons, List.not_mem_nil, or_false] at hs
    subst hs
    exact ⟨fun k hk => absurd hk (Nat.not_lt_zero _), by decide, by decide⟩
  terms := fun k t hk => by
    rcases k with _ | _ | _ | k
    · obtain rfl := Option.some.inj hk
      exact ⟨exT0, fun j x hj => by omega⟩
    · obtain rfl := Option.some.inj hk
      refine ⟨exT1 _ _, fun j x hj hx e => ?_⟩
      obtain rfl : j = 0 := by omega
      obtain rfl := Option.some.inj hx
      exact absurd (congrArg Term.op e) (by decide)
    · obtain rfl := Option.some.inj hk
      refine ⟨exT2 _, fun j x hj hx e => ?_⟩
      rcases j with _ | _ | j
      · obtain rfl := Option.some.inj hx
        exact absurd (congrArg Term.op e) (by decide)
      · obtain rfl := Option.some.inj hx
        exact absurd (congrArg Term.op e) (by decide)
      · omega
    · simp [exD] at hk
  cmds := fun k c hk => by
    rcases k with _ | _ | k
    · obtain rfl := Option.some.inj hk
      exact ⟨by decide, by decide, by decide, by decide, by decide, by decide, by decide⟩
    · obtain rfl := Option.some.inj hk
      exact ⟨by decide, by decide, by decide, by decide, by decide, by decide, by decide⟩
    · simp [exD] at hk
theorem of5 : ofN 5 = ⟨false, [5]⟩ := by decide
theorem exM_sm : ModSm exM := by
  intro t ht
  simp only [exM, List.mem_cons, List.not_mem_nil, or_false] at ht
  subst ht
  refine ⟨⟨⟨by decide, fun k hk => ?_⟩, by decide⟩, fun r hr => by cases hr⟩
  rw [of5] at hk ⊢
  obtain rfl : k = 0 := by simpa using hk
  decide
theorem ex_ok : EvOk exD exM := ⟨exD_small, exD_load, by decide, exM_sm, by decide⟩
theorem ex_asserted : (assertedL exD.cmds)[0]? = some [2] := by decide
theorem ex_true : trueOf (valsTo exD.terms exM exD.terms.length) [2] = true := by decide

section
variable {w : World}
/-- A literal row, read as a slice later. -/
theorem lit_slice {α : Type} {k : Kd α} {pos : 0 < k.size} {W W' : World} {e : TypeId} {xs : List α} {n g : Nat} (cells : Array Value) (css : List (List Value)) (hg : W.heap.size = g) (hn : xs.length = n) (hm : n ≤ maxLen) (hf : css.flatten = cells.toList) (hc : cells.size = n * k.size) {O : Nat → Prop} (hO : ∀ b, O b → b < W.heap.size) (ha : Alls (k.rep W O) xs css) (he : Ext NoB (W.alloc (.cells cells e)) W') :
    (k.slice pos).one W' O xs (.slice (some ⟨g, 0, none⟩) n n) := by
  subst hg
  have h : Own (W.alloc (.cells cells e)) W.heap.size e k O (.slice (some ⟨W.heap.size, 0, none⟩) n n) xs := by
    refine ⟨css, ?_, ha.mono fun x cs h => k.keep h fun b hb hn => ⟨?_, Below.heap_alloc _ _ _ hb⟩⟩
    · have := World.ownsRow_lit (base := W.heap.size) (e := e) (size := k.size) W cells n (Nat.le_refl _) hm hc
      rw [hn, hf]
      exact this
    · rintro (h | h)
      · exact hn h
      · have h' : some W.heap.size = some b := h
        injection h'
        omega
  exact (k.slice pos).oneExt (h.slice hO) he.no
set_option maxRecDepth 100000 in
set_option maxHeartbeats 2000000 in
theorem c_speaks : Calls Tryz.prog 7 #[] w fun e w' => e = .returned (.bool true) ∧ Ext NoB w w' := by
  go_enter Tryz.func7, Tryz.ntmps7
  go_wp2_with fail
  have H1 : kSrts.one (((((w.alloc (.cells #[.string nBool, .slice none 0 0, .string nInt, .slice none 0 0] 74)).alloc (.cells #[.string xName, .slice none 0 0, .int .i64 1] 71)).alloc (.cells #[.int .i64 0, .int .i64 1] 3)).alloc (.cells #[.int .i64 3, .int .i64 0, .slice none 0 0, .string ⟨#[]⟩, .int .i64 4, .int .i64 0, .slice none 0 0, .string xSix, .int .i64 14, .int .i64 0, .slice (some ⟨w.heap.size + 1 + 1, 0, none⟩) 2 2, .string ⟨#[]⟩] 63)).alloc (.cells #[.int .i64 4, .int .i64 0, .string ⟨#[]⟩, .int .i64 0, .int .i64 2, .int .i64 5, .int .i64 0, .string ⟨#[]⟩, .int .i64 0, .int .i64 0] 76)) NoB exD.sorts (.slice (some ⟨w.heap.size, 0, none⟩) 2 2) :=
    lit_slice (W := w) _ [[.string nBool, .slice none 0 0], [.string nInt, .slice none 0 0]] rfl rfl (by simp [maxLen, exD, exM]) rfl rfl (fun _ h => h.elim) (.cons (kSrt_iff.2 ⟨_, rfl, by decide, Kd.nil_mk⟩) (.cons (kSrt_iff.2 ⟨_, rfl, by decide, Kd.nil_mk⟩) .nil)) (((((Ext.refl _ _).alloc _).alloc _).alloc _).alloc _)
  have H2 : kFuns.one (((((w.alloc (.cells #[.string nBool, .slice none 0 0, .string nInt, .slice none 0 0] 74)).alloc (.cells #[.string xName, .slice none 0 0, .int .i64 1] 71)).alloc (.cells #[.int .i64 0, .int .i64 1] 3)).alloc (.cells #[.int .i64 3, .int .i64 0, .slice none 0 0, .string ⟨#[]⟩, .int .i64 4, .int .i64 0, .slice none 0 0, .string xSix, .int .i64 14, .int .i64 0, .slice (some ⟨w.heap.size + 1 + 1, 0, none⟩) 2 2, .string ⟨#[]⟩] 63)).alloc (.cells #[.int .i64 4, .int .i64 0, .string ⟨#[]⟩, .int .i64 0, .int .i64 2, .int .i64 5, .int .i64 0, .string ⟨#[]⟩, .int .i64 0, .int .i64 0] 76)) NoB exD.funs (.slice (some ⟨w.heap.size + 1, 0, none⟩) 1 1) :=
    lit_slice (W := w.alloc _) _ [[.string xName, .slice none 0 0, .int .i64 1]] (by simp) rfl (by simp [maxLen, exD, exM]) rfl rfl (fun _ h => h.elim) (.cons (kFun_iff.2 ⟨_, rfl, by decide, Kd.nil_mk, by decide⟩) .nil) ((((Ext.refl _ _).alloc _).alloc _).alloc _)
  have HK : kInts.one ((((w.alloc (.cells #[.string nBool, .slice none 0 0, .string nInt, .slice none 0 0] 74)).alloc (.cells #[.string xName, .slice none 0 0, .int .i64 1] 71)).alloc (.cells #[.int .i64 0, .int .i64 1] 3))) NoB [0, 1] (.slice (some ⟨w.heap.size + 1 + 1, 0, none⟩) 2 2) :=
    lit_slice (W := (w.alloc _).alloc _) _ [[.int .i64 0], [.int .i64 1]] (by simp) rfl (by simp [maxLen, exD, exM]) rfl rfl (fun _ h => h.elim) (.cons ⟨rfl, by decide⟩ (.cons ⟨rfl, by decide⟩ .nil)) (Ext.refl _ _)
  have H3 : kTerms.one (((((w.alloc (.cells #[.string nBool, .slice none 0 0, .string nInt, .slice none 0 0] 74)).alloc (.cells #[.string xName, .slice none 0 0, .int .i64 1] 71)).alloc (.cells #[.int .i64 0, .int .i64 1] 3)).alloc (.cells #[.int .i64 3, .int .i64 0, .slice none 0 0, .string ⟨#[]⟩, .int .i64 4, .int .i64 0, .slice none 0 0, .string xSix, .int .i64 14, .int .i64 0, .slice (some ⟨w.heap.size + 1 + 1, 0, none⟩) 2 2, .string ⟨#[]⟩] 63)).alloc (.cells #[.int .i64 4, .int .i64 0, .string ⟨#[]⟩, .int .i64 0, .int .i64 2, .int .i64 5, .int .i64 0, .string ⟨#[]⟩, .int .i64 0, .int .i64 0] 76)) NoB exD.terms (.slice (some ⟨w.heap.size + 1 + 1 + 1, 0, none⟩) 3 3) :=
    lit_slice (W := ((w.alloc _).alloc _).alloc _) _ [[.int .i64 3, .int .i64 0, .slice none 0 0, .string ⟨#[]⟩], [.int .i64 4, .int .i64 0, .slice none 0 0, .string xSix], [.int .i64 14, .int .i64 0, .slice (some ⟨w.heap.size + 1 + 1, 0, none⟩) 2 2, .string ⟨#[]⟩]] (by simp) rfl (by simp [maxLen, exD, exM]) rfl rfl (fun _ h => h.elim) (.cons (kTerm_iff.2 ⟨_, rfl, by decide, by decide, Kd.nil_mk, by decide⟩) (.cons (kTerm_iff.2 ⟨_, rfl, by decide, by decide, Kd.nil_mk, by decide⟩) (.cons (kTerm_iff.2 ⟨_, rfl, by decide, by decide, HK, by decide⟩) .nil))) ((Ext.refl _ _).alloc _)
  have H4 : kCmds.one (((((w.alloc (.cells #[.string nBool, .slice none 0 0, .string nInt, .slice none 0 0] 74)).alloc (.cells #[.string xName, .slice none 0 0, .int .i64 1] 71)).alloc (.cells #[.int .i64 0, .int .i64 1] 3)).alloc (.cells #[.int .i64 3, .int .i64 0, .slice none 0 0, .string ⟨#[]⟩, .int .i64 4, .int .i64 0, .slice none 0 0, .string xSix, .int .i64 14, .int .i64 0, .slice (some ⟨w.heap.size + 1 + 1, 0, none⟩) 2 2, .string ⟨#[]⟩] 63)).alloc (.cells #[.int .i64 4, .int .i64 0, .string ⟨#[]⟩, .int .i64 0, .int .i64 2, .int .i64 5, .int .i64 0, .string ⟨#[]⟩, .int .i64 0, .int .i64 0] 76)) NoB exD.cmds (.slice (some ⟨w.heap.size + 1 + 1 + 1 + 1, 0, none⟩) 2 2) :=
    lit_slice (W := (((w.alloc _).alloc _).alloc _).alloc _) _ [[.int .i64 4, .int .i64 0, .string ⟨#[]⟩, .int .i64 0, .int .i64 2], [.int .i64 5, .int .i64 0, .string ⟨#[]⟩, .int .i64 0, .int .i64 0]] (by simp) rfl (by simp [maxLen, exD, exM]) rfl rfl (fun _ h => h.elim) (.cons (kCmd_iff.2 ⟨rfl, by decide, by decide, by decide, by decide, by decide⟩) (.cons (kCmd_iff.2 ⟨rfl, by decide, by decide, by decide, by decide, by decide⟩) .nil)) (Ext.refl _ _)
  have HE1 : Hid (Ext NoB w _) := Lib.hid ((((((Ext.refl NoB w).alloc (.cells #[.string nBool, .slice none 0 0, .string nInt, .slice none 0 0] 74)).alloc (.cells #[.string xName, .slice none 0 0, .int .i64 1] 71)).alloc (.cells #[.int .i64 0, .int .i64 1] 3)).alloc (.cells #[.int .i64 3, .int .i64 0, .slice none 0 0, .string ⟨#[]⟩, .int .i64 4, .int .i64 0, .slice none 0 0, .string xSix, .int .i64 14, .int .i64 0, .slice (some ⟨w.heap.size + 1 + 1, 0, none⟩) 2 2, .string ⟨#[]⟩] 63)).alloc (.cells #[.int .i64 4, .int .i64 0, .string ⟨#[]⟩, .int .i64 0, .int .i64 2, .int .i64 5, .int .i64 0, .string ⟨#[]⟩, .int .i64 0, .int .i64 0] 76))
  refine (c_Loaded exD _ ⟨[_, _, _, _], rfl, kDump_iff.2 ⟨_, _, _, _, rfl, H1, H2, H3, H4⟩⟩ exD_small exD_load).mono ?_
  rintro e w2 ⟨s, O, rfl, hscr, hgr⟩
  have HSC := Lib.hid hscr
  have HG := Lib.hid hgr
  clear hscr hgr H1 H2 H3 H4 HK
  have HE2 := Lib.hid (HE1.out.trans HG.out.1)
  clear HE1 HG
  unfold ptr
  go_wp2_with fail
  have hold : OldO O w2 := by obtain ⟨p, A, vc, _, _, _, hA⟩ := HSC.out; exact hA.old
  have HOLD := Lib.hid hold
  have HI : Hid (kInts.one (w2.alloc (.cells #[.int .i64 0, .int .i64 0] 3)) O [0, 0] (.slice (some ⟨w2.heap.size, 0, none⟩) 2 2)) := Lib.hid (lit_slice (W := w2) _ [[.int .i64 0], [.int .i64 0]] rfl rfl (by simp [maxLen, exD, exM]) rfl rfl hold (.cons ⟨rfl, by decide⟩ (.cons ⟨rfl, by decide⟩ .nil)) (Ext.refl _ _))
  have HE3 : Hid (Ext NoB w2 (w2.alloc (.cells #[.int .i64 0, .int .i64 0] 3))) := Lib.hid ((Ext.refl _ _).alloc _)
  generalize (w2.alloc (.cells #[.int .i64 0, .int .i64 0] 3)) = w3 at *
  clear hold
  refine (c_Of 5 w3 O (HOLD.out.ext HE3.out) (by omega)).mono ?_
  rintro e w4 ⟨v4, rfl, hz, hq⟩
  have hz0 := hz
  obtain ⟨A4, c4, rfl⟩ := z_form hz
  obtain ⟨cs, hcs, hrep⟩ := hz0
  injection hcs with hcs
  have hcs' : cs = [.bool (ofN 5).neg, .slice A4 (ofN 5).digs.length c4] := by
    have := congrArg Array.toList hcs
    simpa using this.symm
  subst hcs'
  have HZ := Lib.hid hrep
  have HE4 := Lib.hid (HE3.out.trans hq)
  have HI4 := Lib.hid (kInts.oneExt HI.out hq.no)
  clear hz hcs hrep hq HI HE3
  go_wp2_with fail
  have HT : Hid (kTables.one (w4.alloc (.cells #[.slice none 0 0, .bool (ofN 5).neg, .slice A4 (ofN 5).digs.length c4] 58)) O exM.funs (.slice (some ⟨w4.heap.size, 0, none⟩) 1 1)) := Lib.hid (lit_slice (W := w4) _ [[.slice none 0 0, .bool (ofN 5).neg, .slice A4 (ofN 5).digs.length c4]] rfl rfl (by simp [maxLen, exD, exM]) rfl rfl (HOLD.out.ext HE4.out) (.cons (kTable_iff.2 ⟨_, _, rfl, Kd.nil_mk, by
    obtain ⟨v, hv, h1⟩ := kZ_iff.1 HZ.out
    simp only [List.cons.injEq, and_true, true_and] at hv
    rw [hv]
    exact h1⟩) .nil) (Ext.refl _ _))
  have HE5 : Hid (Ext NoB w2 (w4.alloc (.cells #[.slice none 0 0, .bool (ofN 5).neg, .slice A4 (ofN 5).digs.length c4] 58))) := Lib.hid (HE4.out.alloc _)
  have HI5 := Lib.hid (kInts.oneExt HI4.out ((Ext.refl O w4).alloc (.cells #[.slice none 0 0, .bool (ofN 5).neg, .slice A4 (ofN 5).digs.length c4] 58)))
  generalize (w4.alloc (.cells #[.slice none 0 0, .bool (ofN 5).neg, .slice A4 (ofN 5).digs.length c4] 58)) = w5 at *
  refine (c_True exD (HSC.out.ext HE5.out) exM _ ⟨[_, _], rfl, kModel_iff.2 ⟨_, _, rfl, HI5.out, HT.out⟩⟩ ex_ok 0 [2] ex_asserted).mono ?_
  rintro e w6 ⟨rfl, hq⟩
  rw [ex_true]
  have HE6 := Lib.hid (HE2.out.trans (HE5.out.trans hq))
  clear hq
  go_wp2_with fail
  go_ret
  exact ⟨rfl, HE6.out⟩
end
end Go.Proofs.YtfpmapbimhdafaaGreatDoor

namespace Go.Proofs.YtfpmapbimhdafaaGreatDoor
open Go Go.ChangeShapes Go.WideShapes Go.ChangeAt Go.RowKit
set_option linter.unusedVariables false

theorem ownKnob_none : ownKnob Tryz.prog.godebug = none := by kernel_rfl
theorem laidOut : laidOutB Tryz.prog = true := by kernel_rfl
abbrev laid3 {H : Type} : List (String × DataW H) := [("math/bits.deBruijn32tab", Rows.laid_math_bits_deBruijn32tab), ("math/bits.deBruijn64tab", Rows.laid_math_bits_deBruijn64tab), ("internal/strconv.uint64pow10", Rows.laid_internal_strconv_uint64pow10)]
/-- The door's own heap meets the condition. -/
theorem door_met (os : Os) (args : Array Value) : laidMetH Tryz.prog laid3 ((World.doorLaid Tryz.prog 400 os).forCall (fun _ _ => 0) ⟨#[], args, []⟩).memory :=
  laidMetH_of_parts3 (fuel := 8) (laidMet_of_run' 8 (by kernel_rfl) (by kernel_rfl)) (by kernel_rfl) (by kernel_rfl)

end Go.Proofs.YtfpmapbimhdafaaGreatDoor
