/- Contracts: a number in memory of its own; many reckoned to one. Contracts: differences; numbers in memory of their own; whether one of many is so. The order of integers, said plainly; lists in order. Contracts: a few integers put in order; whether none is there twice. Contracts: whether none of a few integers is there twice. Maps that a call makes: what they hold, a look into them, an entry more. Contracts: the orders by which kids stand side by side. Contracts: how two kids side by side must be. -/
import Derived.Test.YtfpmapbimhdafaaGreatDoorPB
import Derived.Laws.EntriesVeiled
import Derived.WideMake
namespace Go.Proofs.YtfpmapbimhdafaaGreatDoor
open Go.RowKit
set_option linter.unusedVariables false
set_option linter.unusedSimpArgs false

theorem Kd.onePlus2 {α : Type} (k : Kd α) {w w' : World} {O : Nat → Prop} {x : α} {v : Value} (h : k.one w O x v) (he : Ext O w w') {g g' : Nat} (hg : w.heap.size ≤ g) (hg' : w.heap.size ≤ g') : k.one w' (Plus (Plus O g) g') x v :=
  k.oneKeep h he fun b hb h => h.elim (fun h => h.elim id fun e => by omega) fun e => by omega
theorem old_plus2 {O : Nat → Prop} {w W : World} (hO : OldO O w) (he : Ext NoB w W) {g g' : Nat} (hg : g < W.heap.size) (hg' : g' < W.heap.size) : OldO (Plus (Plus O g) g') W := by
  rintro b ((hb | rfl) | rfl)
  · exact Nat.lt_of_lt_of_le (hO b hb) he.size
  · exact hg
  · exact hg'

/-- A function of two integers, at the arguments that are ok. -/
def Bin (fn : Nat) (op : ZInt → ZInt → ZInt) (ok : ZInt → ZInt → Prop) : Prop :=
  ∀ (va vb : Value) (x y : ZInt) (W : World) (O : Nat → Prop), kZ.agg W O x va → kZ.agg W O y vb → OldO O W → ok x y →
    Calls Tryz.prog fn #[va, vb] W fun e w' => ∃ v, e = .returned v ∧ kZ.agg w' O (op x y) v ∧ Ext NoB W w'
def FoldOk (op : ZInt → ZInt → ZInt) (ok : ZInt → ZInt → Prop) : ZInt → List ZInt → Prop
  | _, [] => True
  | x, y :: l => ok x y ∧ FoldOk op ok (op x y) l

theorem foldOk_at {op : ZInt → ZInt → ZInt} {ok : ZInt → ZInt → Prop} {x y : ZInt} {l : List ZInt} {k : Nat} (h : FoldOk op ok x (l.drop k)) (hk : l[k]? = some y) : ok x y ∧ FoldOk op ok (op x y) (l.drop (k + 1)) := by
  have hlt : k < l.length := (List.getElem?_eq_some_iff.1 hk).1
  rw [List.drop_eq_getElem_cons hlt, (List.getElem?_eq_some_iff.1 hk).2] at h
  exact h
theorem foldl_take {op : ZInt → ZInt → ZInt} {x y acc : ZInt} {l : List ZInt} {k : Nat} (h : acc = (l.take k).foldl op x) (hk : l[k]? = some y) : op acc y = (l.take (k + 1)).foldl op x := by
  rw [List.take_add_one, hk, List.foldl_append, ← h]
  rfl

set_option maxRecDepth 100000 in
set_option maxHeartbeats 2000000 in
theorem c_fold (va : Value) (x : ZInt) (l : List ZInt) (fn : Nat) (op : ZInt → ZInt → ZInt) (ok : ZInt → ZInt → Prop) (hop : Bin fn op ok) (henter : ∀ args W, (callFunc fn args).run Tryz.prog W = .ok (.enter fn args) W) (w : World) (O : Nat → Prop) (ha : kZs.one w O (x :: l) va) (hO : OldO O w) (hok : FoldOk op ok x l) :
    Calls Tryz.prog 65 #[va, .func (.func fn) #[] #[]] w fun e w' => ∃ v, e = .returned v ∧ kZ.agg w' O (l.foldl op x) v ∧ Ext NoB w w' := by
  obtain ⟨A, c, rfl, hl, hm, hr⟩ := Kd.one_slice ha
  have hm' : (x :: l).length ≤ 9223372036854775807 := by unfold maxLen at hm; omega
  obtain ⟨b, off, rfl, hnb, hrow⟩ := hr (by simp)
  obtain ⟨Ax, cx, ⟨c0, c1⟩, hvx⟩ := row_z hrow (i := 0) (x := x) rfl
  have lb := cell_lt c0
  have HR := Lib.hid hrow
  have HVX := Lib.hid hvx
  have HOP := Lib.hid hop
  have HO := Lib.hid hO
  have HOK := Lib.hid hok
  rw [Nat.zero_mul, Nat.add_zero] at c0 c1
  clear hr ha hrow hvx hop hO hok hm hnb
  simp only [List.length_cons] at *
  go_enter Tryz.func65, Tryz.ntmps65
  go_wp2_with fail
  · have hl0 : l.length = 0 := by omega
    go_loopw [14] (fun i wr => ∃ (k : Nat) (acc : ZInt) (A : Option Addr) (d : Nat), k ≤ l.length ∧ i = .int .i64 k ∧ Hid (acc = (l.take k).foldl op x) ∧ Hid (FoldOk op ok acc (l.drop k)) ∧ Hid (Ext NoB w wr) ∧
      Hid (kZ.agg wr (Plus (Plus O w.heap.size) (w.heap.size + 1)) acc (.agg #[.bool acc.neg, .slice A acc.digs.length d])) ∧
      wr.cell? ⟨w.heap.size + 1, 0, none⟩ = some (.bool acc.neg) ∧ wr.cell? ⟨w.heap.size + 1, 1, none⟩ = some (.slice A acc.digs.length d) ∧ wr.frozen? ⟨w.heap.size + 1, 0, none⟩ = false ∧ wr.frozen? ⟨w.heap.size + 1, 1, none⟩ = false ∧
      wr.cell? ⟨w.heap.size, 0, none⟩ = some (.bool false) ∧ wr.cell? ⟨w.heap.size, 1, none⟩ = some (.slice none 0 0) ∧ wr.frozen? ⟨w.heap.size, 0, none⟩ = false ∧ wr.frozen? ⟨w.heap.size, 1, none⟩ = false) (fun i _ => l.length - (intOf i).toNat)
    case atStart => exact ⟨0, x, Ax, cx, Nat.zero_le _, rfl, Lib.hid rfl, HOK, Lib.hid (((Ext.refl _ _).alloc _).alloc _), Lib.hid (zv_mk (kDigs.onePlus2 HVX.out (((Ext.refl _ _).alloc _).alloc _) (Nat.le_refl _) (Nat.le_succ _))), by go_simp, by go_simp, by go_simp, by go_simp, by go_simp, by go_simp, by go_simp, by go_simp⟩
    case round =>
      obtain ⟨k, acc, A2, d2, hk, rfl, HACC, HFO, HE, HZ, e0, e1, f0, f1, r0, r1, g0, g1⟩ := hrel
      clear HOK c0 c1
      have l0 := cell_lt e0
      by_cases hlt : k < l.length
      · omega
      · have HF := Lib.hid (show acc = l.foldl op x by have h := HACC.out; rwa [List.take_of_length_le (by omega)] at h)
        go_wp2_with fail
        refine bodyPost_ret (v := .agg #[.bool acc.neg, .slice A2 acc.digs.length d2]) (by simp [results, Tryz.results65, go_sem, e0, e1, f0, f1, r0, r1, g0, g1]) rfl ⟨_, rfl, ?_, (HE.out.setNew (Nat.le_refl _) _).setNew (Nat.le_refl _) _⟩
        rw [← HF.out]
        exact kZ.aggMinus (kZ.aggMinus HZ.out (Ext.refl _ _)) (Ext.set2 _ _ _ _ _)
  · go_loopw [14] (fun i wr => ∃ (k : Nat) (acc : ZInt) (A : Option Addr) (d : Nat), k ≤ l.length ∧ i = .int .i64 k ∧ Hid (acc = (l.take k).foldl op x) ∧ Hid (FoldOk op ok acc (l.drop k)) ∧ Hid (Ext NoB w wr) ∧
      Hid (kZ.agg wr (Plus (Plus O w.heap.size) (w.heap.size + 1)) acc (.agg #[.bool acc.neg, .slice A acc.digs.length d])) ∧
      wr.cell? ⟨w.heap.size + 1, 0, none⟩ = some (.bool acc.neg) ∧ wr.cell? ⟨w.heap.size + 1, 1, none⟩ = some (.slice A acc.digs.length d) ∧ wr.frozen? ⟨w.heap.size + 1, 0, none⟩ = false ∧ wr.frozen? ⟨w.heap.size + 1, 1, none⟩ = false ∧
      wr.cell? ⟨w.heap.size, 0, none⟩ = some (.bool false) ∧ wr.cell? ⟨w.heap.size, 1, none⟩ = some (.slice none 0 0) ∧ wr.frozen? ⟨w.heap.size, 0, none⟩ = false ∧ wr.frozen? ⟨w.heap.size, 1, none⟩ = false) (fun i _ => l.length - (intOf i).toNat)
    case atStart => exact ⟨0, x, Ax, cx, Nat.zero_le _, rfl, Lib.hid rfl, HOK, Lib.hid (((Ext.refl _ _).alloc _).alloc _), Lib.hid (zv_mk (kDigs.onePlus2 HVX.out (((Ext.refl _ _).alloc _).alloc _) (Nat.le_refl _) (Nat.le_succ _))), by go_simp, by go_simp, by go_simp, by go_simp, by go_simp, by go_simp, by go_simp, by go_simp⟩
    case round =>
      obtain ⟨k, acc, A2, d2, hk, rfl, HACC, HFO, HE, HZ, e0, e1, f0, f1, r0, r1, g0, g1⟩ := hrel
      clear HOK c0 c1
      have l0 := cell_lt e0
      by_cases hlt : k < l.length
      · obtain ⟨y, hyk⟩ := at_some hlt
        obtain ⟨Ay, cy, ⟨y0, y1⟩, hvy⟩ := row_z HR.out (i := k + 1) (x := y) (by simpa using hyk)
        rw [show off + (k + 1) * 2 = off + 2 + k * 2 by omega] at y0 y1
        have HVY := Lib.hid hvy
        replace y0 := HE.out.cell y0 (fun h => h)
        replace y1 := HE.out.cell y1 (fun h => h)
        have HSTEP := Lib.hid (foldOk_at HFO.out hyk)
        have HACC2 := Lib.hid (foldl_take HACC.out hyk)
        clear hvy hyk
        go_wp2_with fail
        refine (HOP.out _ _ acc y _ (Plus (Plus O w.heap.size) (w.heap.size + 1)) (kZ.aggExt HZ.out ((Ext.refl _ _).alloc _)) (zv_mk (kDigs.onePlus2 HVY.out (HE.out.alloc _).no (Nat.le_refl _) (Nat.le_succ _))) (old_plus2 HO.out (HE.out.alloc _) (by simp; omega) (by simp; omega)) HSTEP.out.1).mono ?_
        rintro e w2 ⟨v2, rfl, hv2, he⟩
        obtain ⟨A3, d3, rfl⟩ := z_form hv2
        have HV2 := Lib.hid hv2
        have HE2 := Lib.hid ((HE.out.alloc _).trans he)
        have he' := ((Ext.refl NoB wr).alloc _).trans he
        have e0' := he'.cell e0 (fun h => h)
        have e1' := he'.cell e1 (fun h => h)
        have f0' := (he'.frozen l0 (fun h => h)).trans f0
        have f1' := (he'.frozen l0 (fun h => h)).trans f1
        have r0' := he'.cell r0 (fun h => h)
        have r1' := he'.cell r1 (fun h => h)
        have g0' := (he'.frozen (cell_lt r0) (fun h => h)).trans g0
        have g1' := (he'.frozen (cell_lt r1) (fun h => h)).trans g1
        clear he he' hv2 e0 e1 f0 f1 r0 r1 g0 g1 y0 y1
        go_wp2_with fail
        exact ⟨⟨k + 1, _, A3, d3, by omega, by go_num, HACC2, HSTEP.out.2, Lib.hid ((HE2.out.setNew (Nat.le_succ _) _).setNew (Nat.le_succ _) _), Lib.hid (kZ.aggExt HV2.out (Ext.set2 _ _ _ _ _)), by go_simp, by go_simp, by go_simp, by go_simp, by go_simp, by go_simp, by go_simp, by go_simp⟩, by simp [intOf]; omega⟩
      · have HF := Lib.hid (show acc = l.foldl op x by have h := HACC.out; rwa [List.take_of_length_le (by omega)] at h)
        go_wp2_with fail
        refine bodyPost_ret (v := .agg #[.bool acc.neg, .slice A2 acc.digs.length d2]) (by simp [results, Tryz.results65, go_sem, e0, e1, f0, f1, r0, r1, g0, g1]) rfl ⟨_, rfl, ?_, (HE.out.setNew (Nat.le_refl _) _).setNew (Nat.le_refl _) _⟩
        rw [← HF.out]
        exact kZ.aggMinus (kZ.aggMinus HZ.out (Ext.refl _ _)) (Ext.set2 _ _ _ _ _)
theorem enter_Add : ∀ args W, (callFunc 66 args).run Tryz.prog W = .ok (.enter 66 args) W := fun _ _ => by kernel_rfl
theorem enter_Mul : ∀ args W, (callFunc 67 args).run Tryz.prog W = .ok (.enter 67 args) W := fun _ _ => by kernel_rfl
theorem enter_Sub : ∀ args W, (callFunc 69 args).run Tryz.prog W = .ok (.enter 69 args) W := fun _ _ => by kernel_rfl
end Go.Proofs.YtfpmapbimhdafaaGreatDoor

namespace Go.Proofs.YtfpmapbimhdafaaGreatDoor
open Go.RowKit
set_option linter.unusedVariables false
set_option linter.unusedSimpArgs false

def OkZ (x y : ZInt) : Prop := zRight x = true ∧ zRight y = true ∧ x.digs.length ≤ 100000000 ∧ y.digs.length ≤ 100000000
theorem bin_Add : Bin 66 addZ OkZ := fun va vb x y W O ha hb hO h => c_Add va vb x y W O ha hb hO h.1 h.2.1 h.2.2.1 h.2.2.2
def subZ (x y : ZInt) : ZInt := addZ x (negZ y)

theorem cutTo_last {xs : List Int} : ∀ {n : Nat}, 0 < cutTo xs n → rdI xs (cutTo xs n - 1) ≠ 0
  | 0, h => by simp [cutTo] at h
  | n + 1, h => by
    rw [cutTo] at h ⊢
    split
    · rename_i h0
      rw [if_pos h0] at h
      exact cutTo_last h
    · rename_i h0
      simpa using h0
theorem rdI_take {xs : List Int} {n k : Nat} (h : k < n) : rdI (xs.take n) k = rdI xs k := by
  simp [rdI, List.getD_eq_getElem?_getD, List.getElem?_take_of_lt h]
theorem rdI_cut {xs : List Int} {k : Nat} (h : k < (cutL xs).length) : rdI (cutL xs) k = rdI xs k := by
  rw [cutL_len] at h
  exact rdI_take h
theorem signZ_right {neg : Bool} {xs : List Int} (hd : DigR xs) : zRight (signZ neg xs) = true := by
  rw [signZ]
  split
  · rfl
  · rename_i h
    have hlen := cutL_len xs
    have hle := cutTo_le xs xs.length
    rw [zRight, if_neg h, Bool.and_eq_true]
    constructor
    · rw [List.all_eq_true]
      intro d hd'
      obtain ⟨k, hk, rfl⟩ := List.getElem_of_mem hd'
      replace hk : k < (cutL xs).length := hk
      have := hd k (by omega)
      have h2 := rdI_cut hk
      rw [rdI_eq hk] at h2
      rw [h2]
      simpa using this.2
    · rw [rdI_cut (show (cutL xs).length - 1 < (cutL xs).length by omega)]
      have := cutTo_last (xs := xs) (n := xs.length) (by omega)
      simp only [hlen]
      simpa using this
theorem signZ_len {neg : Bool} {xs : List Int} : (signZ neg xs).digs.length ≤ xs.length := by
  rw [signZ]
  split
  · simp
  · simp only [cutL_len]
    exact cutTo_le xs xs.length
theorem right_digR {x : ZInt} (h : zRight x = true) (h0 : ∀ k, k < x.digs.length → 0 ≤ rdI x.digs k) : DigR x.digs := by
  intro k hk
  refine ⟨h0 k hk, ?_⟩
  have hne : x.digs.length ≠ 0 := by omega
  rw [zRight, if_neg hne, Bool.and_eq_true, List.all_eq_true] at h
  have := h.1 x.digs[k] (List.getElem_mem hk)
  rw [rdI_eq hk]
  simpa using this
theorem negZ_right {x : ZInt} (hd : DigR x.digs) : zRight (negZ x) = true := signZ_right hd
theorem negZ_len {x : ZInt} : (negZ x).digs.length ≤ x.digs.length := signZ_len

theorem box2_two {w : World} (a b c d : Value) (t u : TypeId) : Hid (Ext NoB w ((w.alloc (Obj.cells #[a, b] t)).alloc (Obj.cells #[c, d] u))) := ((Ext.refl _ _).alloc _).alloc _

section
attribute [local go_sem] setCell_same
set_option maxRecDepth 100000 in
set_option maxHeartbeats 2000000 in
theorem bin_Sub : Bin 69 subZ OkZ := by
  intro va vb x y w O ha hb hO hok
  have ha0 := ha
  have hb0 := hb
  obtain ⟨A, c, rfl⟩ := z_form ha
  obtain ⟨B, d, rfl⟩ := z_form hb
  have HA := Lib.hid ha0
  have HB := Lib.hid hb0
  have HO := Lib.hid hO
  have HOK := Lib.hid hok
  have DY := Lib.hid (z_digR hb0 hok.2.1)
  clear ha hb ha0 hb0 hO hok
  have ST := Lib.hid (Box3.start w (.bool x.neg) (.slice A x.digs.length c) (.bool y.neg) (.slice B y.digs.length d) (.bool false) (.slice none 0 0) 50 50 50)
  go_enter Tryz.func69, Tryz.ntmps69
  go_wp2_with fail
  go_region_held3 (fun W => W.cell? ⟨w.heap.size, 0, none⟩ = some (.bool x.neg) ∧ W.cell? ⟨w.heap.size, 1, none⟩ = some (.slice A x.digs.length c) ∧ W.cell? ⟨w.heap.size + 1, 0, none⟩ = some (.bool y.neg) ∧ W.cell? ⟨w.heap.size + 1, 1, none⟩ = some (.slice B y.digs.length d) ∧ Hid (Ext NoB w W))
    (first | exact ST.out.drew.two | assumption | (refine Box2R.ext ?_ (by assumption) <;> assumption) | (refine Box2R.set (Box2R.set ?_ _ _) _ _; assumption))
    (first
      | (go_at_call 68; refine (c_Neg _ y _ (Plus O (w.heap.size + 1 + 1)) (kZ.aggPlus HB.out ST.out.drew.ofExt.no (by omega)) (ST.out.drew.old HO.out) HOK.out.2.1 (Nat.le_trans HOK.out.2.2.2 (by omega))).mono ?_; rintro e w3 ⟨v3, rfl, hz3, hq3⟩)
      | (go_at_call 66; refine (c_Add _ v3 x (negZ y) _ (Plus O (w.heap.size + 1 + 1)) (kZ.aggPlus HA.out (ST.out.drew.ofExt.trans hq3).no (by omega)) hz3 ((ST.out.drew.ext hq3).old HO.out) HOK.out.1 (negZ_right DY.out) HOK.out.2.2.1 (Nat.le_trans negZ_len HOK.out.2.2.2)).mono ?_; rintro e w4 ⟨v4, rfl, hz4, hq4⟩; (obtain ⟨A4, c4, rfl⟩ := z_form hz4); (have HZ4 := Lib.hid hz4); clear hz4; (obtain ⟨r0, r1, r2, r3⟩ := ((ST.out.drew.ext hq3).ext hq4).res)))
  have HE4 := Lib.hid ((ST.out.drew.ext hq3).ext hq4).ofExt
  clear hq3 hq4 hz3
  go_wp2_with fail
  refine bodyPost_ret (v := .agg #[.bool (subZ x y).neg, .slice A4 (subZ x y).digs.length c4]) (by simp [subZ, results, Tryz.results69, go_sem, r0, r1, r2, r3]) rfl ⟨_, rfl, ?_, (HE4.out.setNew (show w.heap.size ≤ w.heap.size + 1 + 1 by omega) _).setNew (show w.heap.size ≤ w.heap.size + 1 + 1 by omega) _⟩
  exact kZ.aggMinus HZ4.out (Ext.set2 _ _ _ _ _)
end

/-- A predicate of an integer. -/
def Prd (fn : Nat) (p : ZInt → Bool) : Prop := ∀ (va : Value) (x : ZInt) (W : World) (O : Nat → Prop), kZ.agg W O x va → Calls Tryz.prog fn #[va] W fun e w' => e = .returned (.bool (p x)) ∧ Ext NoB W w'
theorem prd_yes : Prd 64 zYes := fun va x W O h => c_yes va x W O h
theorem prd_no : Prd 90 (fun x => !zYes x) := fun va x W O h => c_no va x W O h
theorem enter_yes : ∀ args W, (callFunc 64 args).run Tryz.prog W = .ok (.enter 64 args) W := fun _ _ => by kernel_rfl
theorem enter_no : ∀ args W, (callFunc 90 args).run Tryz.prog W = .ok (.enter 90 args) W := fun _ _ => by kernel_rfl

def idx (p : ZInt → Bool) (xs : List ZInt) : Int := match xs.findIdx? p with | some i => (i : Int) | none => -1
theorem idx_hit {p : ZInt → Bool} {xs : List ZInt} {k : Nat} {x : ZInt} (hx : xs[k]? = some x) (hp : p x = true) (h : ∀ y ∈ xs.take k, p y = false) : idx p xs = k := by
  have hk : k < xs.length := (List.getElem?_eq_some_iff.1 hx).1
  have hf : xs.findIdx? p = some k := by
    rw [List.findIdx?_eq_some_iff_getElem]
    refine ⟨hk, by rw [(List.getElem?_eq_some_iff.1 hx).2]; exact hp, fun j hj => ?_⟩
    have hm : xs[j] ∈ xs.take k := by
      rw [List.mem_iff_getElem]
      exact ⟨j, by rw [List.length_take]; omega, by rw [List.getElem_take]⟩
    simp [h _ hm]
  rw [idx, hf]
theorem idx_miss {p : ZInt → Bool} {xs : List ZInt} (h : ∀ y ∈ xs, p y = false) : idx p xs = -1 := by
  have hf : xs.findIdx? p = none := by
    rw [List.findIdx?_eq_none_iff]
    exact fun x hx => by simp [h x hx]
  rw [idx, hf]
theorem idx_any {p : ZInt → Bool} {xs : List ZInt} : decide (0 ≤ idx p xs) = xs.any p := by
  rw [idx]
  cases h : xs.findIdx? p with
  | none =>
    rw [List.findIdx?_eq_none_iff] at h
    have : xs.any p = false := by rw [List.any_eq_false]; exact fun x hx => by simp [h x hx]
    rw [this]; rfl
  | some i =>
    rw [List.findIdx?_eq_some_iff_getElem] at h
    obtain ⟨hi, hp, _⟩ := h
    have : xs.any p = true := by rw [List.any_eq_true]; exact ⟨_, List.getElem_mem hi, hp⟩
    rw [this]
    simp

set_option maxRecDepth 100000 in
set_option maxHeartbeats 1000000 in
theorem c_IndexFunc (va : Value) (xs : List ZInt) (fn : Nat) (p : ZInt → Bool) (hp : Prd fn p) (henter : ∀ args W, (callFunc fn args).run Tryz.prog W = .ok (.enter fn args) W) (w : World) (O : Nat → Prop) (ha : kZs.one w O xs va) :
    Calls Tryz.prog 107 #[va, .func (.func fn) #[] #[]] w fun e w' => e = .returned (.int .i64 (idx p xs)) ∧ Ext NoB w w' := by
  obtain ⟨A, c, rfl, hl, hm, hr⟩ := Kd.one_slice ha
  have h1 : xs.length ≤ 9223372036854775807 := by unfold maxLen at hm; omega
  have HA := Lib.hid hr
  have HP := Lib.hid hp
  clear hr ha hm hl hp
  go_enter Tryz.func107, Tryz.ntmps107
  go_wp2_with fail
  go_loopw [8] (fun i wr => ∃ k : Nat, k ≤ xs.length ∧ i = .int .i64 k ∧ Hid (∀ y ∈ xs.take k, p y = false) ∧ Hid (Ext NoB w wr)) (fun i _ => xs.length - (intOf i).toNat)
  case atStart => exact ⟨0, Nat.zero_le _, rfl, Lib.hid (fun y hy => by simp at hy), Lib.hid (Ext.refl _ _)⟩
  case round =>
    obtain ⟨k, hk, rfl, HK, HE⟩ := hrel
    by_cases hlt : k < xs.length
    · obtain ⟨b, off, rfl, hnb, hrow⟩ := HA.out (ne_nil_of_lt hlt)
      obtain ⟨x, hxk⟩ := at_some hlt
      obtain ⟨Ax, cx, ⟨c0, c1⟩, hvx⟩ := row_z hrow hxk
      replace c0 := HE.out.cell c0 (fun h => h)
      replace c1 := HE.out.cell c1 (fun h => h)
      have HVX := Lib.hid hvx
      have KX := Lib.hid hxk
      clear hvx hrow hxk hnb
      go_wp2_with fail
      refine (HP.out _ x _ O (zv_mk (kDigs.oneExt HVX.out HE.out.no))).mono ?_
      rintro e w2 ⟨rfl, he⟩
      have HE2 := Lib.hid (HE.out.trans he)
      clear he
      cases hpx : p x
      · have HPX := Lib.hid hpx
        clear hpx
        go_wp2_with fail
        refine ⟨⟨k + 1, by omega, by go_num, Lib.hid (fun y hy => ?_), HE2⟩, by simp [intOf]; omega⟩
        rw [List.take_add_one, KX.out] at hy
        rcases List.mem_append.1 hy with hy | hy
        · exact HK.out y hy
        · simp at hy; rw [hy]; exact HPX.out
      · have HI := Lib.hid (idx_hit KX.out hpx HK.out)
        clear hpx
        go_wp2_with fail
        go_ret
        exact ⟨retI HI.out.symm, HE2.out⟩
    · have HI := Lib.hid (idx_miss (fun y hy => HK.out y (by rw [List.take_of_length_le (by omega)]; exact hy)))
      go_wp2_with fail
      go_ret
      exact ⟨retI HI.out.symm, HE.out⟩
set_option maxRecDepth 100000 in
set_option maxHeartbeats 1000000 in
theorem c_ContainsFunc (va : Value) (xs : List ZInt) (fn : Nat) (p : ZInt → Bool) (hp : Prd fn p) (henter : ∀ args W, (callFunc fn args).run Tryz.prog W = .ok (.enter fn args) W) (w : World) (O : Nat → Prop) (ha : kZs.one w O xs va) :
    Calls Tryz.prog 91 #[va, .func (.func fn) #[] #[]] w fun e w' => e = .returned (.bool (xs.any p)) ∧ Ext NoB w w' := by
  have HI := Lib.hid (c_IndexFunc va xs fn p hp henter w O ha)
  clear hp henter ha
  go_enter Tryz.func91, Tryz.ntmps91
  go_wp2_with fail
  refine HI.out.mono ?_
  rintro e w2 ⟨rfl, he⟩
  have HE := Lib.hid he
  clear he
  go_wp2_with fail
  go_ret
  exact ⟨retB idx_any, HE.out⟩
end Go.Proofs.YtfpmapbimhdafaaGreatDoor

namespace Go.Proofs.YtfpmapbimhdafaaGreatDoor
open Go.RowKit
set_option linter.unusedVariables false
set_option linter.unusedSimpArgs false

theorem cmpTo_anti {xs ys : List Int} : ∀ n, cmpTo ys xs n = -cmpTo xs ys n
  | 0 => rfl
  | n + 1 => by
    have ih := @cmpTo_anti xs ys n
    rw [cmpTo, cmpTo]
    by_cases h1 : rdI xs n < rdI ys n
    · rw [if_neg (by omega), if_pos h1, if_pos h1]; rfl
    · by_cases h2 : rdI ys n < rdI xs n
      · rw [if_pos h2, if_neg h1, if_pos h2]
      · rw [if_neg h2, if_neg h1, if_neg h1, if_neg h2, ih]
theorem cmpTo_cases (xs ys : List Int) : ∀ n, cmpTo xs ys n = -1 ∨ cmpTo xs ys n = 0 ∨ cmpTo xs ys n = 1
  | 0 => .inr (.inl rfl)
  | n + 1 => by
    rw [cmpTo]
    split
    · exact .inl rfl
    · split
      · exact .inr (.inr rfl)
      · exact cmpTo_cases xs ys n
theorem cmpTo_trans {xs ys zs : List Int} : ∀ n, cmpTo xs ys n ≤ 0 → cmpTo ys zs n ≤ 0 → cmpTo xs zs n ≤ 0
  | 0, _, _ => Int.le_refl _
  | n + 1, h1, h2 => by
    rw [cmpTo] at h1 h2 ⊢
    have ih := @cmpTo_trans xs ys zs n
    by_cases a : rdI xs n < rdI ys n
    · by_cases b : rdI ys n < rdI zs n
      · rw [if_pos (by omega)]; omega
      · rw [if_neg b] at h2
        by_cases c : rdI zs n < rdI ys n
        · rw [if_pos c] at h2; omega
        · rw [if_pos (by omega)]; omega
    · rw [if_neg a] at h1
      by_cases b : rdI ys n < rdI xs n
      · rw [if_pos b] at h1; omega
      · rw [if_neg b] at h1
        by_cases c : rdI ys n < rdI zs n
        · rw [if_pos (by omega)]; omega
        · rw [if_neg c] at h2
          by_cases d : rdI zs n < rdI ys n
          · rw [if_pos d] at h2; omega
          · rw [if_neg d] at h2
            rw [if_neg (by omega), if_neg (by omega)]
            exact ih h1 h2
theorem cmpDigs_anti {xs ys : List Int} : cmpDigs ys xs = -cmpDigs xs ys := by
  rw [cmpDigs, cmpDigs]
  by_cases h : xs.length = ys.length
  · rw [if_pos h, if_pos h.symm, h]; exact cmpTo_anti _
  · rw [if_neg h, if_neg (fun e => h e.symm)]
    by_cases h1 : xs.length < ys.length
    · rw [if_pos h1, if_neg (by omega)]; rfl
    · rw [if_neg h1, if_pos (by omega)]
theorem cmpDigs_trans {xs ys zs : List Int} (h1 : cmpDigs xs ys ≤ 0) (h2 : cmpDigs ys zs ≤ 0) : cmpDigs xs zs ≤ 0 := by
  rw [cmpDigs] at h1 h2 ⊢
  by_cases a : xs.length = ys.length
  · rw [if_pos a] at h1
    by_cases b : ys.length = zs.length
    · rw [if_pos b] at h2
      rw [if_pos (a.trans b)]
      rw [a] at h1 ⊢
      exact cmpTo_trans _ h1 h2
    · rw [if_neg b] at h2
      by_cases c : ys.length < zs.length
      · rw [if_neg (by omega), if_pos (by omega)]; omega
      · rw [if_neg c] at h2; omega
  · rw [if_neg a] at h1
    by_cases b : xs.length < ys.length
    · by_cases c : ys.length = zs.length
      · rw [if_neg (by omega), if_pos (by omega)]; omega
      · rw [if_neg c] at h2
        by_cases d : ys.length < zs.length
        · rw [if_neg (by omega), if_pos (by omega)]; omega
        · rw [if_neg d] at h2; omega
    · rw [if_neg b] at h1; omega
theorem cmpZ_anti {x y : ZInt} : cmpZ y x = -cmpZ x y := by
  obtain ⟨s, xs⟩ := x
  obtain ⟨t, ys⟩ := y
  cases s <;> cases t <;> simp [cmpZ]
  · exact cmpDigs_anti
  · exact cmpDigs_anti
theorem cmpZ_trans {x y z : ZInt} (h1 : cmpZ x y ≤ 0) (h2 : cmpZ y z ≤ 0) : cmpZ x z ≤ 0 := by
  obtain ⟨s, xs⟩ := x
  obtain ⟨t, ys⟩ := y
  obtain ⟨u, zs⟩ := z
  cases s <;> cases t <;> cases u <;> simp [cmpZ] at h1 h2 ⊢
  · exact cmpDigs_trans h1 h2
  · exact cmpDigs_trans h2 h1

/-- In order. -/
def Ordered (xs : List ZInt) : Prop := xs.Pairwise fun a b => cmpZ a b ≤ 0
theorem ordered_insert {L R : List ZInt} {x : ZInt} (h : Ordered (L ++ R)) (hR : ∀ r ∈ R, cmpZ x r ≤ 0) (hL : ∀ l, L.getLast? = some l → cmpZ l x ≤ 0) : Ordered (L ++ x :: R) := by
  rw [Ordered, List.pairwise_append] at h ⊢
  obtain ⟨h1, h2, h3⟩ := h
  have hLx : ∀ l ∈ L, cmpZ l x ≤ 0 := by
    intro l hl
    rcases List.eq_nil_or_concat L with rfl | ⟨L', y, rfl⟩
    · cases hl
    · have hy := hL y (by simp)
      rw [List.concat_eq_append] at hl h1
      rcases List.mem_append.1 hl with hl' | hl'
      · rw [List.pairwise_append] at h1
        exact cmpZ_trans (h1.2.2 l hl' y (by simp)) hy
      · simp at hl'
        rw [hl']
        exact hy
  refine ⟨h1, ?_, ?_⟩
  · rw [List.pairwise_cons]
    exact ⟨fun r hr => hR r hr, h2⟩
  · intro a ha b hb
    rcases List.mem_cons.1 hb with rfl | hb
    · exact hLx a ha
    · exact h3 a ha b hb

/-- Is none there twice? -/
def apartB (xs : List ZInt) : Bool := decide (xs.Nodup)
theorem ordered_adj {xs : List ZInt} (h : Ordered xs) (hn : ∀ k x y, xs[k]? = some x → xs[k + 1]? = some y → x ≠ y) : xs.Nodup := by
  induction xs with
  | nil => exact List.nodup_nil
  | cons a l ih =>
    rw [Ordered, List.pairwise_cons] at h
    refine List.nodup_cons.2 ⟨fun hm => ?_, ih h.2 fun k x y h1 h2 => hn (k + 1) x y (by simpa using h1) (by simpa using h2)⟩
    cases l with
    | nil => cases hm
    | cons b l =>
      have hab := hn 0 a b rfl rfl
      rcases List.mem_cons.1 hm with rfl | hm
      · exact hab rfl
      · have h1 := h.1 b (List.mem_cons_self ..)
        have h2 := (List.pairwise_cons.1 h.2).1 a hm
        have h3 : cmpZ a b = 0 := by
          have := @cmpZ_anti a b
          omega
        exact hab (cmpZ_zero.1 h3)
theorem nodup_adj {xs : List ZInt} (h : xs.Nodup) {k : Nat} {x y : ZInt} (h1 : xs[k]? = some x) (h2 : xs[k + 1]? = some y) : x ≠ y := by
  rintro rfl
  obtain ⟨a, rfl⟩ := List.getElem?_eq_some_iff.1 h1
  obtain ⟨b, hb⟩ := List.getElem?_eq_some_iff.1 h2
  have hp := List.pairwise_iff_getElem.1 h k (k + 1) a b (by omega)
  exact hp hb.symm

/-- A list, in three parts at a place. -/
theorem swap_mid {L R : List ZInt} {x y : ZInt} : (((L ++ [y]) ++ x :: R).set (L.length + 1) y).set L.length x = L ++ x :: (y :: R) := by
  rw [List.append_assoc, List.singleton_append, List.set_append_right _ _ (by omega), show L.length + 1 - L.length = 1 by omega, List.set_append_right _ _ (by omega), Nat.sub_self]
  rfl
theorem swap_perm {L R : List ZInt} {x y : ZInt} : List.Perm (L ++ x :: (y :: R)) ((L ++ [y]) ++ x :: R) := by
  rw [List.append_assoc, List.singleton_append]
  exact (List.Perm.swap y x R).append_left L
end Go.Proofs.YtfpmapbimhdafaaGreatDoor

namespace Go.Proofs.YtfpmapbimhdafaaGreatDoor
open Go.RowKit
set_option linter.unusedVariables false
set_option linter.unusedSimpArgs false

theorem flat_set {css : List (List Value)} {s : Nat} (hs : ∀ c ∈ css, c.length = s) : ∀ (i j : Nat) (v : Value), i < css.length → j < s → css.flatten.set (i * s + j) v = (css.set i ((css.getD i []).set j v)).flatten := by
  induction css with
  | nil => intro i j v h; simp at h
  | cons c css ih =>
    intro i j v h hj
    have hc : c.length = s := hs c (List.mem_cons_self ..)
    cases i with
    | zero => simp [List.set_append_left _ _ (by omega : j < c.length)]
    | succ i =>
      rw [List.flatten_cons, List.set_append_right _ _ (by rw [hc, Nat.succ_mul]; omega), hc, show (i + 1) * s + j - s = i * s + j by rw [Nat.succ_mul]; omega, ih (fun c hc => hs c (List.mem_cons_of_mem _ hc)) i j v (by simpa using h) hj]
      simp

theorem Own.form {α : Type} {k : Kd α} {w : World} {base : Nat} {e : TypeId} {O : Nat → Prop} {v : Value} {xs : List α} (h : Own w base e k O v xs) (hne : 0 < xs.length) : ∃ g c, v = .slice (some ⟨g, 0, none⟩) xs.length c := by
  obtain ⟨css, ⟨_, h1⟩, _⟩ := h
  rcases h1 with ⟨rfl, h0⟩ | ⟨g, cap, cur, rfl, _⟩
  · omega
  · exact ⟨g, cap, rfl⟩

/-- An element of two cells is written anew. -/
theorem Own.set2 {W : World} {base g n c : Nat} {e : TypeId} {O : Nat → Prop} {xs : List ZInt} (h : Own W base e kZ O (.slice (some ⟨g, 0, none⟩) n c) xs) {j : Nat} (hj : j < xs.length) {x : ZInt} {u0 u1 : Value} (hx : kZ.rep W (PlusV O (.slice (some ⟨g, 0, none⟩) n c)) x [u0, u1]) :
    Own ((W.setCell ⟨g, j * 2, none⟩ u0).setCell ⟨g, j * 2 + 1, none⟩ u1) base e kZ O (.slice (some ⟨g, 0, none⟩) n c) (xs.set j x) ∧ Ext (fun b => (Value.slice (some ⟨g, 0, none⟩) n c).ownBlock = some b) W ((W.setCell ⟨g, j * 2, none⟩ u0).setCell ⟨g, j * 2 + 1, none⟩ u1) := by
  have hE : Ext (fun b => (Value.slice (some ⟨g, 0, none⟩) n c).ownBlock = some b) W ((W.setCell ⟨g, j * 2, none⟩ u0).setCell ⟨g, j * 2 + 1, none⟩ u1) :=
    ((Ext.refl (fun b => (Value.slice (some ⟨g, 0, none⟩) n c).ownBlock = some b) W).setO (p := ⟨g, j * 2, none⟩) rfl _).setO (p := ⟨g, j * 2 + 1, none⟩) rfl _
  obtain ⟨css, h1, h2⟩ := h
  have hs : ∀ c ∈ css, c.length = 2 := fun c hc => by
    obtain ⟨y, _, hy⟩ := h2.mem c hc
    exact kZ.len hy
  have hl : css.length = xs.length := h2.length.symm
  have hn : n = xs.length := by
    rcases h1.2 with ⟨h, _⟩ | ⟨_, _, _, h, _⟩
    · cases h
    · injection h
  subst hn
  have s1 := (h1.stored (j * 2) u0).1
  have s2 := (s1.stored (j * 2 + 1) u1).1
  refine ⟨⟨css.set j [u0, u1], ?_, ?_⟩, hE⟩
  · rw [List.length_set]
    have f1 := flat_set hs j 0 u0 (by omega) (by omega)
    rw [Nat.add_zero] at f1
    rw [f1] at s2
    have hs' : ∀ c ∈ css.set j ((css.getD j []).set 0 u0), c.length = 2 := by
      intro c hc
      rcases List.mem_or_eq_of_mem_set hc with hc | rfl
      · exact hs c hc
      · rw [List.length_set, List.getD_eq_getElem?_getD, List.getElem?_eq_getElem (by omega)]
        exact hs _ (List.getElem_mem (by omega))
    rw [flat_set hs' j 1 u1 (by simpa using (by omega : j < css.length)) (by omega)] at s2
    have hcs : (css.getD j []).length = 2 := by
      rw [List.getD_eq_getElem?_getD, List.getElem?_eq_getElem (by omega)]
      exact hs _ (List.getElem_mem (by omega))
    have he : (css.set j ((css.getD j []).set 0 u0)).set j (((css.set j ((css.getD j []).set 0 u0)).getD j []).set 1 u1) = css.set j [u0, u1] := by
      have hg : (css.set j ((css.getD j []).set 0 u0)).getD j [] = (css.getD j []).set 0 u0 := by
        simp [List.getD_eq_getElem?_getD, List.getElem?_set_self (by omega : j < css.length)]
      rw [hg, List.set_set]
      congr 1
      match css.getD j [], hcs with
      | [a, b], _ => rfl
    rw [he] at s2
    exact s2
  · refine (h2.set j hx).mono fun y cs hy => kZ.keep hy fun b hb hnb => ⟨hnb, hE.block b hb fun hO => hnb (.inr hO)⟩

theorem Own.row_z {W : World} {base g n c : Nat} {e : TypeId} {O : Nat → Prop} {xs : List ZInt} (h : Own W base e kZ O (.slice (some ⟨g, 0, none⟩) n c) xs) {i : Nat} {x : ZInt} (hx : xs[i]? = some x) :
    ∃ A d, (W.cell? ⟨g, i * 2, none⟩ = some (.bool x.neg) ∧ W.cell? ⟨g, i * 2 + 1, none⟩ = some (.slice A x.digs.length d)) ∧ kDigs.one W (PlusV O (.slice (some ⟨g, 0, none⟩) n c)) x.digs (.slice A x.digs.length d) := by
  obtain ⟨css, hrow, hall⟩ := h
  have hs : ∀ c ∈ css, c.length = 2 := fun c hc => by
    obtain ⟨y, _, hy⟩ := hall.mem c hc
    exact kZ.len hy
  obtain ⟨cs, hcs, hr⟩ := hall.at_ i x hx
  obtain ⟨v, rfl, h1⟩ := kZ_iff.1 hr
  have h2 := h1
  obtain ⟨A, d, rfl, _⟩ := Kd.one_slice h2
  have c0 := hrow.cells (g := g) rfl _ _ (flat_at hs i _ 0 _ hcs rfl)
  have c1 := hrow.cells (g := g) rfl _ _ (flat_at hs i _ 1 _ hcs rfl)
  rw [add_at] at c0 c1
  rw [Nat.zero_add] at c0 c1
  exact ⟨A, d, ⟨c0, c1⟩, h1⟩

theorem enter_Cmp : ∀ args W, (callFunc 22 args).run Tryz.prog W = .ok (.enter 22 args) W := fun _ _ => by kernel_rfl

set_option maxRecDepth 100000 in
set_option maxHeartbeats 2000000 in
theorem c_insertion (v : Value) (xs : List ZInt) (w : World) (base : Nat) (O : Nat → Prop) (ho : Own w base 50 kZ O v xs) (hb : ∀ b, O b → b < base) (hr : AllRight xs) (hn : 0 < xs.length) :
    Calls Tryz.prog 119 #[v, .int .i64 0, .int .i64 (xs.length : Int), .func (.func 22) #[] #[]] w fun e w' => ∃ ys, e = .returned (.tuple #[]) ∧ Own w' base 50 kZ O v ys ∧ List.Perm ys xs ∧ Ordered ys ∧ Ext (fun b => v.ownBlock = some b) w w' := by
  obtain ⟨g, c, rfl⟩ := ho.form hn
  have hm : xs.length ≤ 9223372036854775807 := by
    obtain ⟨A, c', h1, h2, h3⟩ := ho.shape
    unfold maxLen at h3
    omega
  have HR := Lib.hid hr
  have HB := Lib.hid hb
  have hent := enter_Cmp
  clear hr hb
  go_enter Tryz.func119, Tryz.ntmps119
  go_wp2_with fail
  go_loopw [8] (fun i wr => ∃ (k : Nat) (ys : List ZInt), i = .int .i64 k ∧ 1 ≤ k ∧ k ≤ xs.length ∧ Hid (List.Perm ys xs) ∧ Hid (Ordered (ys.take k)) ∧ Own wr base 50 kZ O (.slice (some ⟨g, 0, none⟩) xs.length c) ys ∧ Hid (Ext (fun b => (Value.slice (some ⟨g, 0, none⟩) xs.length c).ownBlock = some b) w wr)) (fun i _ => xs.length - (intOf i).toNat)
  case atStart => exact ⟨1, xs, rfl, Nat.le_refl _, hn, Lib.hid (List.Perm.refl _), Lib.hid (by
    match xs, hn with
    | a :: l, _ => simp [Ordered]), ho, Lib.hid (Ext.refl _ _)⟩
  case round =>
    obtain ⟨k, ys, rfl, hk1, hk, HP, HS, hown, HE⟩ := hrel
    clear ho
    by_cases hlt : k < xs.length
    · go_wp2_with fail
      obtain ⟨x, hxk⟩ : ∃ x, ys[k]? = some x := at_some (by have := HP.out.length_eq; omega)
      have HS0 : Hid (ys = (ys.take k ++ x :: []) ++ ys.drop (k + 1)) := Lib.hid (by
        have hlt' : k < ys.length := (List.getElem?_eq_some_iff.1 hxk).1
        have h := List.take_append_drop k ys
        rw [List.drop_eq_getElem_cons hlt', (List.getElem?_eq_some_iff.1 hxk).2] at h
        rw [List.append_assoc, List.singleton_append]
        exact h.symm)
      have HL0 : Hid ((ys.take k).length = k) := Lib.hid (by rw [List.length_take]; have := (List.getElem?_eq_some_iff.1 hxk).1; omega)
      clear hxk
      go_loopw [9] (fun jv wi => ∃ (L R T zs : List ZInt), jv = .int .i64 (L.length : Int) ∧ L.length ≤ k ∧ Hid (L.length + R.length = k) ∧ Hid (zs = (L ++ x :: R) ++ T) ∧ Hid (List.Perm zs xs) ∧ Hid (Ordered (L ++ R)) ∧ Hid (∀ r ∈ R, cmpZ x r ≤ 0) ∧ Own wi base 50 kZ O (.slice (some ⟨g, 0, none⟩) xs.length c) zs ∧ Hid (Ext (fun b => (Value.slice (some ⟨g, 0, none⟩) xs.length c).ownBlock = some b) w wi)) (fun jv _ => (intOf jv).toNat)
      case atStart => exact ⟨ys.take k, [], ys.drop (k + 1), ys, by rw [HL0.out], by rw [HL0.out]; exact Nat.le_refl _, Lib.hid (by rw [HL0.out]; rfl), HS0, HP, Lib.hid (by rw [List.append_nil]; exact HS.out), Lib.hid (fun r hr => by cases hr), hown, HE⟩
      case round =>
        obtain ⟨L, R, T, zs, rfl, hLk, HLR, HZ, HP2, HO2, HR2, hown2, HE2⟩ := hrel
        clear hown HE HS0 HL0 HS HP
        rcases List.eq_nil_or_concat L with hL | ⟨L', y, hL⟩
        · subst hL
          go_wp2_with fail
          go_quiet (fail)
          go_wp2_with fail
          refine ⟨⟨k + 1, zs, by go_num, by omega, by omega, HP2, Lib.hid ?_, hown2.ext ((Ext.refl _ _).drewN _), Lib.hid (HE2.out.drewN _)⟩, by simp [intOf]; omega⟩
          have hl := HLR.out
          simp only [List.length_nil, Nat.zero_add] at hl
          rw [HZ.out, List.nil_append, List.take_append_of_le_length (by simp; omega), List.take_of_length_le (by simp; omega)]
          have := ordered_insert (L := []) HO2.out HR2.out (fun l h => by simp at h)
          simpa using this
        · rw [List.concat_eq_append] at hL
          subst hL
          have hLl : (L' ++ [y]).length = L'.length + 1 := by simp
          rw [hLl] at hLk
          rw [hLl]
          clear hLl
          have HZ3 : Hid (zs = (((L' ++ [y]) ++ x :: R)) ++ T) := HZ
          have hx : zs[L'.length + 1]? = some x := by
            rw [HZ.out, List.append_assoc, List.append_assoc, List.getElem?_append_right (by omega), show L'.length + 1 - L'.length = 1 by omega]
            rfl
          have hy : zs[L'.length]? = some y := by
            rw [HZ.out, List.append_assoc, List.append_assoc, List.getElem?_append_right (by omega), Nat.sub_self]
            rfl
          obtain ⟨Ax, cx, ⟨x0, x1⟩, hvx⟩ := hown2.row_z hx
          obtain ⟨Ay, cy, ⟨y0, y1⟩, hvy⟩ := hown2.row_z hy
          have HVX := Lib.hid hvx
          have HVY := Lib.hid hvy
          have RX := Lib.hid (HR.out x (HP2.out.mem_iff.1 (List.mem_of_getElem? hx)))
          have RY := Lib.hid (HR.out y (HP2.out.mem_iff.1 (List.mem_of_getElem? hy)))
          have l0 : L'.length + 1 < zs.length := (List.getElem?_eq_some_iff.1 hx).1
          have HLEN := Lib.hid HP2.out.length_eq
          rw [HP2.out.length_eq] at l0
          clear hx hy hvx hvy
          generalize hj : L'.length = j at *
          have HJ := Lib.hid hj
          clear hj
          have eqj : ((j + 1 : Nat) : Int) - 1 = (j : Int) := by omega
          have HQ : Hid (Ext NoB wr wr.drew) := (Ext.refl _ _).drew
          have q0 : (0 : Int) ≤ (j : Int) := by omega
          have hp1 : decide ((0 : Int) < ((j + 1 : Nat) : Int)) = true := by simp
          have hp2 : decide ((0 : Int) < (j : Int) + 1) = true := by simp
          have hp3 : decide ((0 : Int) ≤ (j : Int)) = true := by simp
          have q1 : (j : Int) < (xs.length : Int) := by omega
          have q2 : (0 : Int) ≤ ((j + 1 : Nat) : Int) := by omega
          have q3 : ((j + 1 : Nat) : Int) < (xs.length : Int) := by omega
          have q4 : ((j : Int) + 1) < (xs.length : Int) := by omega
          have q5 : (0 : Int) ≤ (j : Int) + 1 := by omega
          have hw3 : IntKind.i64.wrap (j : Int) = (j : Int) := by rw [IntWalk.i64_in _ (by omega)]
          have hw2 : IntKind.i64.wrap (((j + 1 : Nat) : Int) - 1) = (j : Int) := by rw [eqj]; exact hw3
          go_wp2_with fail
          go_region_held3 (fun W => W.cell? ⟨g, (j + 1) * 2, none⟩ = some (.bool x.neg) ∧ W.cell? ⟨g, (j + 1) * 2 + 1, none⟩ = some (.slice Ax x.digs.length cx) ∧ W.cell? ⟨g, j * 2, none⟩ = some (.bool y.neg) ∧ W.cell? ⟨g, j * 2 + 1, none⟩ = some (.slice Ay y.digs.length cy) ∧ Hid (Ext NoB wr W))
            (first | exact ⟨x0, x1, y0, y1, HQ⟩ | assumption | (obtain ⟨p1, p2, p3, p4, p5⟩ := (by assumption : _ ∧ _); have hq := (by assumption : Ext NoB wr.drew _); exact ⟨hq.cell p1 (fun h => h), hq.cell p2 (fun h => h), hq.cell p3 (fun h => h), hq.cell p4 (fun h => h), p5.out.trans hq⟩))
            (first | (go_at_call 22; refine (c_Cmp _ _ x y _ _ (zv_mk (kDigs.oneExt HVX.out HQ.out.no)) (zv_mk (kDigs.oneExt HVY.out HQ.out.no)) RX.out RY.out).mono ?_; rintro e w4 ⟨rfl, hq4⟩))
          have HW4 := Lib.hid (HQ.out.trans hq4)
          have HOWN := Lib.hid (hown2.ext HW4.out)
          have z0 := HW4.out.cell x0 (fun h => h)
          have z1 := HW4.out.cell x1 (fun h => h)
          have z2 := HW4.out.cell y0 (fun h => h)
          have z3 := HW4.out.cell y1 (fun h => h)
          have fr : ∀ o, w4.frozen? ⟨g, o, none⟩ = false := fun o => by
            obtain ⟨css, ⟨_, h⟩, _⟩ := HOWN.out
            rcases h with ⟨h, _⟩ | ⟨g', cap, cur, h, _, hh, _⟩
            · cases h
            · injection h with h
              injection h with h
              injection h with h
              subst h
              simp [World.frozen?, hh]
          clear x0 x1 y0 y1 hown2 hq4 HQ
          by_cases hc : cmpZ x y < 0
          · have HC := Lib.hid hc
            go_wp2_with fail
            go_region
            all_goals
              go_wp2_with fail
              have s1 := HOWN.out.set2 (j := j + 1) (x := y) (u0 := .bool y.neg) (u1 := .slice Ay y.digs.length cy) (by have := HP2.out.length_eq; omega) (kZ_iff.2 ⟨_, rfl, kDigs.oneExt HVY.out HW4.out.no⟩)
              have s2 := s1.1.set2 (j := j) (x := x) (u0 := .bool x.neg) (u1 := .slice Ax x.digs.length cx) (by rw [List.length_set]; have := HP2.out.length_eq; omega) (kZ_iff.2 ⟨_, rfl, kDigs.oneKeep HVX.out (HW4.out.no.trans (s1.2.mono fun i _ h => .inr h)) (fun _ _ h => h)⟩)
              have hz : (zs.set (j + 1) y).set j x = (L' ++ x :: (y :: R)) ++ T := by
                rw [HZ3.out, List.set_append_left _ _ (by have := HJ.out; simp; omega), List.set_append_left _ _ (by have := HJ.out; simp; omega), ← HJ.out, swap_mid]
              rw [hz] at s2
              refine ⟨⟨L', y :: R, T, _, by rw [HJ.out], by have := HJ.out; omega, Lib.hid (by have := HLR.out; simp at this ⊢; omega), Lib.hid rfl, Lib.hid (List.Perm.trans (by rw [HZ3.out]; exact swap_perm.append_right T) HP2.out), Lib.hid (by have := HO2.out; simpa using this), Lib.hid (fun r hr => ?_), s2.1.ext ((Ext.refl _ _).drew), Lib.hid (((HE2.out.thenNo HW4.out).trans s1.2).trans s2.2).drew⟩, by simp [intOf]⟩
              rcases List.mem_cons.1 hr with rfl | hr
              · have := HC.out
                omega
              · exact HR2.out r hr
          · have HC := Lib.hid hc
            go_wp2_with fail
            refine ⟨⟨k + 1, zs, by go_num, by omega, by omega, HP2, Lib.hid ?_, HOWN.out, Lib.hid (HE2.out.thenNo HW4.out)⟩, by simp [intOf]; omega⟩
            rw [HZ3.out, List.take_append_of_le_length (by have := HLR.out; simp at this ⊢; omega), List.take_of_length_le (by have := HLR.out; simp at this ⊢; omega)]
            refine ordered_insert HO2.out HR2.out (fun l hl => ?_)
            simp at hl
            subst hl
            have := @cmpZ_anti x y
            have := HC.out
            omega
    · go_wp2_with fail
      go_end0
      refine ⟨ys, rfl, hown, HP.out, ?_, HE.out⟩
      have h := HS.out
      rwa [List.take_of_length_le (by have := HP.out.length_eq; omega)] at h
end Go.Proofs.YtfpmapbimhdafaaGreatDoor

namespace Go.Proofs.YtfpmapbimhdafaaGreatDoor
open Go.RowKit
set_option linter.unusedVariables false
set_option linter.unusedSimpArgs false

set_option maxRecDepth 100000 in
set_option maxHeartbeats 2000000 in
theorem c_Len (n : Nat) (w : World) (hn : n ≤ 12) : Calls Tryz.prog 117 #[.int .u64 (n : Int)] w fun e w' => ∃ k : Int, e = .returned (.int .i64 k) ∧ w = w' := by
  have h : n = 0 ∨ n = 1 ∨ n = 2 ∨ n = 3 ∨ n = 4 ∨ n = 5 ∨ n = 6 ∨ n = 7 ∨ n = 8 ∨ n = 9 ∨ n = 10 ∨ n = 11 ∨ n = 12 := by omega
  rcases h with rfl | rfl | rfl | rfl | rfl | rfl | rfl | rfl | rfl | rfl | rfl | rfl | rfl
  all_goals
    go_enter Tryz.func117, Tryz.ntmps117
    go_wp2
    go_ret
    exact ⟨_, rfl, rfl⟩

set_option maxRecDepth 100000 in
set_option maxHeartbeats 2000000 in
theorem c_pdq (v : Value) (xs : List ZInt) (lim : Int) (w : World) (base : Nat) (O : Nat → Prop) (ho : Own w base 50 kZ O v xs) (hb : ∀ b, O b → b < base) (hr : AllRight xs) (hn : 0 < xs.length) (h12 : xs.length ≤ 12) :
    Calls Tryz.prog 116 #[v, .int .i64 0, .int .i64 (xs.length : Int), .int .i64 lim, .func (.func 22) #[] #[]] w fun e w' => ∃ ys, e = .returned (.tuple #[]) ∧ Own w' base 50 kZ O v ys ∧ List.Perm ys xs ∧ Ordered ys ∧ Ext (fun b => v.ownBlock = some b) w w' := by
  have HC := Lib.hid (c_insertion v xs w base O ho hb hr hn)
  clear ho hb hr
  go_enter Tryz.func116, Tryz.ntmps116
  go_wp2_with fail
  go_loopw [1, 2, 3] (fun a b l wr => a = .int .i64 0 ∧ b = .int .i64 (xs.length : Int) ∧ w = wr) (fun _ _ _ _ => 0)
  case atStart => exact ⟨rfl, rfl, rfl⟩
  case round =>
    obtain ⟨rfl, rfl, rfl⟩ := hrel
    go_wp2_with fail
    refine HC.out.mono ?_
    rintro e w2 ⟨ys, rfl, h1, h2, h3, h4⟩
    have H1 := Lib.hid h1
    have H2 := Lib.hid h2
    have H3 := Lib.hid h3
    have H4 := Lib.hid h4
    clear h1 h2 h3 h4
    go_wp2_with fail
    refine bodyPost_ret (results_none rfl _ _ _) rfl ?_
    exact ⟨ys, rfl, H1.out, H2.out, H3.out, H4.out⟩

set_option maxRecDepth 100000 in
set_option maxHeartbeats 2000000 in
theorem c_SortFunc (v : Value) (xs : List ZInt) (w : World) (base : Nat) (O : Nat → Prop) (ho : Own w base 50 kZ O v xs) (hb : ∀ b, O b → b < base) (hr : AllRight xs) (hn : 0 < xs.length) (h12 : xs.length ≤ 12) :
    Calls Tryz.prog 109 #[v, .func (.func 22) #[] #[]] w fun e w' => ∃ ys, e = .returned (.tuple #[]) ∧ Own w' base 50 kZ O v ys ∧ List.Perm ys xs ∧ Ordered ys ∧ Ext (fun b => v.ownBlock = some b) w w' := by
  have HC := Lib.hid (fun lim => c_pdq v xs lim w base O ho hb hr hn h12)
  obtain ⟨g, c, rfl⟩ := ho.form hn
  clear ho hb hr
  go_enter Tryz.func109, Tryz.ntmps109
  go_wp2_with fail
  refine (c_Len xs.length _ h12).mono ?_
  rintro e w2 ⟨k, rfl, rfl⟩
  go_wp2_with fail
  refine (HC.out k).mono ?_
  rintro e w2 ⟨ys, rfl, h1, h2, h3, h4⟩
  have H1 := Lib.hid h1
  have H2 := Lib.hid h2
  have H3 := Lib.hid h3
  have H4 := Lib.hid h4
  clear h1 h2 h3 h4
  go_wp2_with fail
  go_end0
  exact ⟨ys, rfl, H1.out, H2.out, H3.out, H4.out⟩

set_option maxRecDepth 100000 in
set_option maxHeartbeats 2000000 in
theorem c_Clone (va : Value) (xs : List ZInt) (w : World) (O : Nat → Prop) (ha : kZs.one w O xs va) (hn : 0 < xs.length) (h12 : xs.length ≤ 12) :
    Calls Tryz.prog 108 #[va] w fun e w' => ∃ v, e = .returned v ∧ Own w' w.heap.size 50 kZ O v xs ∧ Ext NoB w w' := by
  have HA := Lib.hid ha
  obtain ⟨A, c, rfl, hl, hm, hr⟩ := Kd.one_slice ha
  obtain ⟨b, off, rfl, hnb, hrow⟩ := hr (by intro h; rw [h] at hn; simp at hn)
  clear ha hr hrow hm
  have hl100 : xs.length ≤ 100 := by omega
  have hown : Own (w.alloc (Obj.cells #[] 50)) w.heap.size 50 kZ O (.slice (some ⟨w.heap.size, 0, none⟩) 0 0) [] :=
    ⟨[], ⟨rfl, .inr ⟨w.heap.size, 0, #[], rfl, Nat.le_refl _, heap_alloc_new w _, Nat.le_refl _, by simp [maxLen], rfl, rfl⟩⟩, .nil⟩
  have HOWN := Lib.hid hown
  clear hown
  have hnil := fun (W : World) => Lib.run_eql_slice_nil (P := Tryz.prog) W 38 50
  go_enter Tryz.func108, Tryz.ntmps108
  go_wp2_with (at_builtin; go_loud (refine wpl_append kZ (by decide) rfl (.tmp 5) (.tmp 6) 38 rfl w.heap.size 50 (.agg #[.bool false, .slice none 0 0]) 32 Tryz.underlying38 info_Z rfl O (.slice (some ⟨w.heap.size, 0, none⟩) 0 0) rfl [] HOWN.out (.slice (some ⟨b, off, none⟩) xs.length c) rfl xs (kZs.oneV HA.out ((Ext.refl _ _).alloc _) (fun g h => by injection h with h; simp at h; omega)) (by omega) (by simp only [List.length_nil]; omega) (by simp) ?_); intro v1 w1 hO1 hE1 hat1)
  go_ret
  rw [List.nil_append] at hO1
  refine ⟨_, rfl, hO1, Ext.then ((Ext.refl NoB w).alloc _) hE1 (fun i hi h => ?_)⟩
  injection h with h
  simp at h
  omega

set_option maxRecDepth 100000 in
set_option maxHeartbeats 2000000 in
theorem c_apart (va : Value) (xs : List ZInt) (w : World) (O : Nat → Prop) (ha : kZs.one w O xs va) (hO : OldO O w) (hr : AllRight xs) (hn : 0 < xs.length) (h12 : xs.length ≤ 12) :
    Calls Tryz.prog 92 #[va] w fun e w' => e = .returned (.bool (apartB xs)) ∧ Ext NoB w w' := by
  have HA := Lib.hid ha
  have HO := Lib.hid hO
  have HR := Lib.hid hr
  clear ha hO hr
  go_enter Tryz.func92, Tryz.ntmps92
  go_wp2_with fail
  refine (c_Clone va xs _ O HA.out hn h12).mono ?_
  rintro e w1 ⟨v, rfl, hown, hE1⟩
  obtain ⟨g, c, rfl⟩ := hown.form hn
  have HOWN := Lib.hid hown
  have HE1 := Lib.hid hE1
  clear hown hE1
  go_wp2_with fail
  refine (c_SortFunc _ xs _ w.heap.size O HOWN.out HO.out HR.out hn h12).mono ?_
  rintro e w2 ⟨ys, rfl, h1, h2, h3, h4⟩
  have H1 := Lib.hid h1
  have H2 := Lib.hid h2
  have H3 := Lib.hid h3
  have H4 := Lib.hid (HE1.out.then h4 (fun i hi h => by have := (HOWN.out.base h).1; omega))
  have HYR : Hid (AllRight ys) := fun y hy => HR.out y (h2.mem_iff.1 hy)
  have hyl : ys.length = xs.length := h2.length_eq
  have HAP : Hid (apartB xs = apartB ys) := Lib.hid (by rw [apartB, apartB, decide_eq_decide]; exact h2.symm.nodup_iff)
  have HYL := Lib.hid hyl
  clear h1 h2 h3 h4 hyl HOWN
  have HS := Lib.hid (H1.out.slice (pos := by decide) HO.out)
  go_wp2_with fail
  go_loopw [4] (fun i wr => ∃ k : Nat, 1 ≤ k ∧ k ≤ xs.length ∧ i = .int .i64 k ∧ Hid (∀ j x y, j + 1 < k → ys[j]? = some x → ys[j + 1]? = some y → x ≠ y) ∧ Hid (Ext NoB w2 wr)) (fun i _ => xs.length - (intOf i).toNat)
  case atStart => exact ⟨1, Nat.le_refl _, hn, rfl, Lib.hid (fun j x y h => by omega), Lib.hid (Ext.refl _ _)⟩
  case round =>
    obtain ⟨k, hk1, hk, rfl, HK, HE⟩ := hrel
    by_cases hlt : k < xs.length
    · obtain ⟨j, rfl⟩ : ∃ j, k = j + 1 := ⟨k - 1, by omega⟩
      obtain ⟨x, hx⟩ : ∃ x, ys[j]? = some x := at_some (by have := HYL.out; omega)
      obtain ⟨y, hy⟩ : ∃ y, ys[j + 1]? = some y := at_some (by have := HYL.out; omega)
      obtain ⟨Ax, cx, ⟨x0, x1⟩, hvx⟩ := H1.out.row_z hx
      obtain ⟨Ay, cy, ⟨y0, y1⟩, hvy⟩ := H1.out.row_z hy
      replace x0 := HE.out.cell x0 (fun h => h)
      replace x1 := HE.out.cell x1 (fun h => h)
      replace y0 := HE.out.cell y0 (fun h => h)
      replace y1 := HE.out.cell y1 (fun h => h)
      have HVX := Lib.hid hvx
      have HVY := Lib.hid hvy
      have RX := Lib.hid (HYR.out.at_ hx)
      have RY := Lib.hid (HYR.out.at_ hy)
      have KX := Lib.hid hx
      have KY := Lib.hid hy
      clear hvx hvy hx hy
      have eqj : ((j + 1 : Nat) : Int) - 1 = (j : Int) := by omega
      have q0 : (0 : Int) ≤ (j : Int) := by omega
      have q1 : (j : Int) < (xs.length : Int) := by omega
      have q2 : (0 : Int) ≤ ((j + 1 : Nat) : Int) := by omega
      have q3 : ((j + 1 : Nat) : Int) < (xs.length : Int) := by omega
      have q4 : ((j : Int) + 1) < (xs.length : Int) := by omega
      have q5 : (0 : Int) ≤ (j : Int) + 1 := by omega
      have hw3 : IntKind.i64.wrap (j : Int) = (j : Int) := by rw [IntWalk.i64_in _ (by omega)]
      have hw2 : IntKind.i64.wrap (((j + 1 : Nat) : Int) - 1) = (j : Int) := by rw [eqj]; exact hw3
      have HQ : Hid (Ext NoB w2 wr.drew) := HE.out.drew
      go_wp2_with fail
      go_region_held3 (fun W => W.cell? ⟨g, (j + 1) * 2, none⟩ = some (.bool y.neg) ∧ W.cell? ⟨g, (j + 1) * 2 + 1, none⟩ = some (.slice Ay y.digs.length cy) ∧ W.cell? ⟨g, j * 2, none⟩ = some (.bool x.neg) ∧ W.cell? ⟨g, j * 2 + 1, none⟩ = some (.slice Ax x.digs.length cx) ∧ Hid (Ext NoB w2 W))
        (first | exact ⟨y0, y1, x0, x1, HQ⟩ | assumption | (obtain ⟨p1, p2, p3, p4, p5⟩ := (by assumption : _ ∧ _); have hq := (by assumption : Ext NoB wr.drew _); exact ⟨hq.cell p1 (fun h => h), hq.cell p2 (fun h => h), hq.cell p3 (fun h => h), hq.cell p4 (fun h => h), p5.out.trans hq⟩))
        (first | (go_at_call 22; refine (c_Cmp _ _ x y _ _ (zv_mk (kDigs.oneExt HVX.out HQ.out.no)) (zv_mk (kDigs.oneExt HVY.out HQ.out.no)) RX.out RY.out).mono ?_; rintro e w4 ⟨rfl, hq4⟩))
      have HW4 := Lib.hid (HQ.out.trans hq4)
      clear hq4 HQ x0 x1 y0 y1 hw2 hw3
      by_cases heq : x = y
      · have hbz : (cmpZ x y == 0) = true := by rw [beq_iff_eq, cmpZ_zero]; exact heq
        have HZ := Lib.hid (show apartB xs = false by
          rw [HAP.out, apartB, decide_eq_false_iff_not]
          exact fun h => nodup_adj h KX.out KY.out heq)
        clear heq
        go_wp2_with fail
        go_ret
        exact ⟨retB HZ.out.symm, H4.out.trans HW4.out⟩
      · have hbz : (cmpZ x y == 0) = false := by rw [beq_eq_false_iff_ne]; exact fun h => heq (cmpZ_zero.1 h)
        have HQ2 := Lib.hid heq
        clear heq
        go_wp2_with fail
        refine ⟨⟨j + 1 + 1, by omega, by omega, by go_num, Lib.hid (fun i a b hi ha hb => ?_), HW4⟩, by simp [intOf]; omega⟩
        rcases Nat.lt_or_ge (i + 1) (j + 1) with h | h
        · exact HK.out i a b h ha hb
        · obtain rfl : i = j := by omega
          rw [KX.out] at ha
          rw [KY.out] at hb
          injection ha with ha
          injection hb with hb
          subst ha hb
          exact HQ2.out
    · have HZ := Lib.hid (show apartB xs = true by
        rw [HAP.out, apartB, decide_eq_true_iff]
        exact ordered_adj H3.out (fun i a b ha hb => HK.out i a b (by have := (List.getElem?_eq_some_iff.1 hb).1; have := HYL.out; omega) ha hb))
      go_wp2_with fail
      go_ret
      exact ⟨retB HZ.out.symm, H4.out.trans HE.out⟩
end Go.Proofs.YtfpmapbimhdafaaGreatDoor

namespace Go.Proofs.YtfpmapbimhdafaaGreatDoor
open Go.RowKit
set_option linter.unusedVariables false
set_option linter.unusedSimpArgs false

/-- A map's block holds just these entries, in this order. -/
def MapHas {κ : Type} (kv : κ → Value) (w : World) (r : Nat) (es : List (κ × Value)) : Prop :=
  ∃ arr clk, w.heap[r]? = some (.map arr clk) ∧ arr.toList.map (fun e => (e.key, e.val)) = es.map (fun p => (kv p.1, p.2))
theorem MapHas.lt {κ : Type} {kv : κ → Value} {w : World} {r : Nat} {es : List (κ × Value)} (h : MapHas kv w r es) : r < w.heap.size := by
  obtain ⟨arr, clk, h, _⟩ := h
  exact (Array.getElem?_eq_some_iff.1 h).1
theorem MapHas.ext {κ : Type} {kv : κ → Value} {w w' : World} {r : Nat} {es : List (κ × Value)} {O : Nat → Prop} (h : MapHas kv w r es) (he : Ext O w w') (hn : ¬ O r) : MapHas kv w' r es := by
  obtain ⟨arr, clk, h1, h2⟩ := h
  exact ⟨arr, clk, he.heap h1 hn, h2⟩
def lookK {κ : Type} [BEq κ] (a : κ) : List (κ × Value) → Option Value
  | [] => none
  | p :: l => if a == p.1 then some p.2 else lookK a l

theorem findNow_look {κ : Type} [BEq κ] {kv : κ → Value} {d : TypeDesc} (hs : ∀ a b, Instr.sameNow d (kv a) (kv b) = some (a == b)) (a : κ) : ∀ (l : List MapEntry) (es : List (κ × Value)) (i : Nat), l.map (fun e => (e.key, e.val)) = es.map (fun p => (kv p.1, p.2)) →
    ∃ o, Instr.findNow d (kv a) l i = some o ∧ o.map (·.2) = lookK a es
  | [], es, i, h => by
    have : es = [] := by simpa using h.symm
    subst this
    exact ⟨none, rfl, rfl⟩
  | e :: l, es, i, h => by
    cases es with
    | nil => simp at h
    | cons p es =>
      simp only [List.map_cons, List.cons.injEq, Prod.mk.injEq] at h
      obtain ⟨⟨h1, h2⟩, h3⟩ := h
      rw [Instr.findNow, h1, hs a p.1, lookK]
      cases hb : a == p.1
      · obtain ⟨o, ho1, ho2⟩ := findNow_look hs a l es (i + 1) h3
        exact ⟨o, ho1, by simpa using ho2⟩
      · exact ⟨_, rfl, by simp [h2]⟩

section
variable {P : Program} {κ : Type} [BEq κ] {kv : κ → Value} {d : TypeDesc}
theorem run_lookup_has {w : World} {r : Nat} {es : List (κ × Value)} (h : MapHas kv w r es) (hs : ∀ a b, Instr.sameNow d (kv a) (kv b) = some (a == b)) (hk : ∀ a, MapKept.IsKey d (kv a)) {mty kt et : TypeId}
    (hm : P.underlying mty = some (.map kt et)) (hd : P.underlying kt = some d) {z : Value} (hz : (zeroValue et).run P w = .ok z w) (a : κ) :
    (Instr.lookup mty (.map (some r)) (kv a) true).run P w = .ok (.tuple #[(lookK a es).getD z, .bool (lookK a es).isSome]) w := by
  obtain ⟨arr, clk, hb, hl⟩ := h
  obtain ⟨o, ho1, ho2⟩ := findNow_look hs a arr.toList es 0 hl
  have hc : (Instr.checkKey arr.isEmpty 10000 kt (kv a)).run P w = .ok () w := MapKept.run_checkKey hd (hk a) _ 9999
  have hf := MapKept.run_findKey (P := P) (w := w) (kt := kt) hd ho1
  rw [← ho2]
  cases o with
  | none => simp [Instr.lookup, run_underlying hm, MapKept.run_getObj_map hb, hc, hf, hz, Result.andThen]
  | some p => simp [Instr.lookup, run_underlying hm, MapKept.run_getObj_map hb, hc, hf, Result.andThen]
theorem run_lookup_has1 {w : World} {r : Nat} {es : List (κ × Value)} (h : MapHas kv w r es) (hs : ∀ a b, Instr.sameNow d (kv a) (kv b) = some (a == b)) (hk : ∀ a, MapKept.IsKey d (kv a)) {mty kt et : TypeId}
    (hm : P.underlying mty = some (.map kt et)) (hd : P.underlying kt = some d) {z : Value} (hz : (zeroValue et).run P w = .ok z w) (a : κ) :
    (Instr.lookup mty (.map (some r)) (kv a) false).run P w = .ok ((lookK a es).getD z) w := by
  obtain ⟨arr, clk, hb, hl⟩ := h
  obtain ⟨o, ho1, ho2⟩ := findNow_look hs a arr.toList es 0 hl
  have hc : (Instr.checkKey arr.isEmpty 10000 kt (kv a)).run P w = .ok () w := MapKept.run_checkKey hd (hk a) _ 9999
  have hf := MapKept.run_findKey (P := P) (w := w) (kt := kt) hd ho1
  rw [← ho2]
  cases o with
  | none => simp [Instr.lookup, run_underlying hm, MapKept.run_getObj_map hb, hc, hf, hz, Result.andThen]
  | some p => simp [Instr.lookup, run_underlying hm, MapKept.run_getObj_map hb, hc, hf, Result.andThen]
/-- An entry that isn't there yet. -/
theorem run_update_new {w : World} {r : Nat} {es : List (κ × Value)} (h : MapHas kv w r es) (hs : ∀ a b, Instr.sameNow d (kv a) (kv b) = some (a == b)) (hk : ∀ a, MapKept.IsKey d (kv a)) {mty kt et : TypeId}
    (hm : P.underlying mty = some (.map kt et)) (hd : P.underlying kt = some d) (a : κ) (v : Value) (hn : lookK a es = none) :
    ∃ w', (Instr.mapUpdate mty (.map (some r)) (kv a) v).run P w = .ok () w' ∧ MapHas kv w' r (es ++ [(a, v)]) ∧ Ext (fun b => b = r) w w' := by
  obtain ⟨arr, clk, hb, hl⟩ := h
  obtain ⟨o, ho1, ho2⟩ := findNow_look hs a arr.toList es 0 hl
  have hc : (Instr.checkKey false 10000 kt (kv a)).run P w = .ok () w := MapKept.run_checkKey hd (hk a) _ 9999
  have hf := MapKept.run_findKey (P := P) (w := w) (kt := kt) hd ho1
  rw [hn] at ho2
  have ho : o = none := by cases o <;> simp at ho2 ⊢
  subst ho
  have hlt := (Array.getElem?_eq_some_iff.1 hb).1
  refine ⟨{ w with heap := w.heap.setIfInBounds r (.map (arr.push { key := kv a, val := v, born := clk }) (clk + 1)) }, ?_, ⟨arr.push { key := kv a, val := v, born := clk }, clk + 1, by simp [hlt], ?_⟩, ⟨rfl, rfl, rfl, by simp, fun b hb' hne => ?_⟩⟩
  · simp [Instr.mapUpdate, run_underlying hm, MapKept.run_getObj_map hb, hc, hf, MapKept.run_setObj_map _ hb, Result.andThen]
  · simp [hl]
  · rw [Array.getElem?_setIfInBounds, if_neg (fun e => hne e.symm)]
end
theorem MapHas.new {κ : Type} (kv : κ → Value) (w : World) : MapHas kv (w.alloc (.map #[] 0)) w.heap.size [] := ⟨#[], 0, heap_alloc_new w _, rfl⟩
theorem same_int (k : IntKind) : ∀ a b : Int, Instr.sameNow (.int k) (.int k a) (.int k b) = some (a == b) := fun a b => by simp [Instr.sameNow]
theorem same_str : ∀ a b : ByteArray, Instr.sameNow .string (.string a) (.string b) = some (a == b) := fun a b => by simp [Instr.sameNow]
theorem key_int (k : IntKind) : ∀ a : Int, MapKept.IsKey (.int k) (.int k a) := fun a => by simp [MapKept.IsKey]
theorem key_str : ∀ a : ByteArray, MapKept.IsKey .string (.string a) := fun a => by simp [MapKept.IsKey]
end Go.Proofs.YtfpmapbimhdafaaGreatDoor

namespace Go.Proofs.YtfpmapbimhdafaaGreatDoor
open Go.RowKit
set_option linter.unusedVariables false
set_option linter.unusedSimpArgs false

/-- 'm[k] = v' of a key that isn't there, in a literal. -/
theorem wpl_insert {P : Program} {ops : Array Oper} {rest : List Oper} {o : Oper} {a : Act} {Q : Exit → Act → World → Prop} {κ : Type} [BEq κ] {kv : κ → Value} {d : TypeDesc} {w : World} (hgd : o.guard = none) (m k v : Operand) (t kt et : TypeId)
    (ho : o.op = .insert t m k v) (r : Nat) (hm : a.eval m = .map (some r)) (key : κ) (hk : a.eval k = kv key) (val : Value) (hv : a.eval v = val) (es : List (κ × Value)) (h : MapHas kv w r es)
    (hs : ∀ a b, Instr.sameNow d (kv a) (kv b) = some (a == b)) (hkey : ∀ a, MapKept.IsKey d (kv a)) (ht : P.underlying t = some (.map kt et)) (hd : P.underlying kt = some d) (hn : lookK key es = none)
    (hK : ∀ w', MapHas kv w' r (es ++ [(key, val)]) → Ext (fun b => b = r) w w' → wpList P ops Q rest (a.put o.dst undef) w') : wpList P ops Q (o :: rest) a w := by
  refine wpList_plain hgd fun K hK' => ?_
  obtain ⟨w', hrun, h1, h2⟩ := run_update_new (P := P) h hs hkey ht hd key val hn
  unfold Oper.wp execOp
  simp only [ho, hm, hk, hv]
  simp [hrun, Result.andThen]
  exact hK' _ _ (hK w' h1 h2)

def clo (p : Nat) : Value := .func (.func 55) #[] #[.pointer (some ⟨p, 0, none⟩)]
def fnOf (f : Nat) : Value := .func (.func f) #[] #[]
/-- The map of the orders. -/
def How (W : World) (O : Nat → Prop) (m : Value) : Prop :=
  ∃ r p1 p2 p3 p4 p5, m = .map (some r) ∧ ¬ O r ∧ MapHas (Value.int .i64) W r [(11, clo p1), (13, clo p2), (14, clo p3), (15, clo p4), (16, clo p5)] ∧
    (¬ O p1 ∧ W.cell? ⟨p1, 0, none⟩ = some (fnOf 56)) ∧ (¬ O p2 ∧ W.cell? ⟨p2, 0, none⟩ = some (fnOf 57)) ∧ (¬ O p3 ∧ W.cell? ⟨p3, 0, none⟩ = some (fnOf 58)) ∧
    (¬ O p4 ∧ W.cell? ⟨p4, 0, none⟩ = some (fnOf 59)) ∧ (¬ O p5 ∧ W.cell? ⟨p5, 0, none⟩ = some (fnOf 60))
theorem How.ext {W W' : World} {O : Nat → Prop} {m : Value} (h : How W O m) (he : Ext O W W') : How W' O m := by
  obtain ⟨r, p1, p2, p3, p4, p5, rfl, hr, hm, ⟨n1, h1⟩, ⟨n2, h2⟩, ⟨n3, h3⟩, ⟨n4, h4⟩, ⟨n5, h5⟩⟩ := h
  exact ⟨r, p1, p2, p3, p4, p5, rfl, hr, hm.ext he hr, ⟨n1, he.cell h1 n1⟩, ⟨n2, he.cell h2 n2⟩, ⟨n3, he.cell h3 n3⟩, ⟨n4, he.cell h4 n4⟩, ⟨n5, he.cell h5 n5⟩⟩
theorem How.turn {W W' : World} {O O' : Nat → Prop} {m : Value} (h : How W O m) (he : Ext O W W') (ho : ∀ b, b < W.heap.size → O' b → O b) : How W' O' m := by
  obtain ⟨r, p1, p2, p3, p4, p5, rfl, hr, hm, ⟨n1, h1⟩, ⟨n2, h2⟩, ⟨n3, h3⟩, ⟨n4, h4⟩, ⟨n5, h5⟩⟩ := h
  exact ⟨r, p1, p2, p3, p4, p5, rfl, fun h => hr (ho _ hm.lt h), hm.ext he hr, ⟨fun h => n1 (ho _ (cell_lt h1) h), he.cell h1 n1⟩, ⟨fun h => n2 (ho _ (cell_lt h2) h), he.cell h2 n2⟩, ⟨fun h => n3 (ho _ (cell_lt h3) h), he.cell h3 n3⟩, ⟨fun h => n4 (ho _ (cell_lt h4) h), he.cell h4 n4⟩, ⟨fun h => n5 (ho _ (cell_lt h5) h), he.cell h5 n5⟩⟩

set_option maxRecDepth 100000 in
set_option maxHeartbeats 1000000 in
theorem c_by (fn : Nat) (w : World) : Calls Tryz.prog 54 #[fnOf fn] w fun e w' => e = .returned (clo w.heap.size) ∧ w' = w.alloc (.cells #[fnOf fn] 103) := by
  unfold fnOf clo
  go_enter Tryz.func54, Tryz.ntmps54
  go_wp2_with fail
  go_ret
  exact ⟨rfl, rfl⟩

set_option maxRecDepth 100000 in
set_option maxHeartbeats 2000000 in
theorem c_orders (w : World) (O : Nat → Prop) (hO : OldO O w) : Calls Tryz.prog 30 #[] w fun e w' => ∃ m, e = .returned m ∧ How w' O m ∧ Ext NoB w w' := by
  have hmm := @run_makeMap Tryz.prog
  have HO := Lib.hid hO
  clear hO
  go_enter Tryz.func30, Tryz.ntmps30
  go_wp2_with fail
  refine (c_by 56 _).mono ?_
  rintro e w0 ⟨rfl, rfl⟩
  have m0 := (MapHas.new (Value.int .i64) w).ext ((Ext.refl NoB _).alloc (.cells #[fnOf 56] 103)) (fun h => h)
  have c1 : ((w.alloc (.map #[] 0)).alloc (.cells #[fnOf 56] 103)).cell? ⟨w.heap.size + 1, 0, none⟩ = some (fnOf 56) := by go_simp
  have s0 : Hid (Ext NoB w ((w.alloc (.map #[] 0)).alloc (.cells #[fnOf 56] 103))) := ((Ext.refl _ _).alloc _).alloc _
  have z1 : w.heap.size < w.heap.size + 1 := Nat.lt_succ_self _
  have M0 := Lib.hid m0
  have C1 := Lib.hid c1
  clear m0 c1
  go_wp2_with (refine wpl_insert (kv := Value.int .i64) (d := .int .i64) rfl (.tmp 2) (.const (.int .i64 11)) (.tmp 4) 88 _ _ rfl w.heap.size rfl 11 rfl (clo (w.heap.size + 1)) rfl [] M0.out (same_int _) (key_int _) Tryz.underlying88 Tryz.underlying3 rfl ?_; intro w1 m1 e1)
  have M1 := Lib.hid m1
  have S1 := Lib.hid (s0.out.then e1 (fun i hi h => by omega))
  have D1_1 := Lib.hid (e1.cell C1.out (fun h => by simp only at h; omega))
  clear m1 e1
  refine (c_by 57 _).mono ?_
  rintro e w0 ⟨rfl, rfl⟩
  have m2 := M1.out.ext ((Ext.refl NoB _).alloc (.cells #[fnOf 57] 103)) (fun h => h)
  have c2 : (w1.alloc (.cells #[fnOf 57] 103)).cell? ⟨w1.heap.size, 0, none⟩ = some (fnOf 57) := by go_simp
  have MM2 := Lib.hid m2
  have C2 := Lib.hid c2
  have hz2 : w.heap.size < w1.heap.size := M1.out.lt
  clear m2 c2
  go_wp2_with (refine wpl_insert (kv := Value.int .i64) (d := .int .i64) rfl (.tmp 2) (.const (.int .i64 13)) (.tmp 6) 88 _ _ rfl w.heap.size rfl 13 rfl (clo w1.heap.size) rfl [(11, clo (w.heap.size + 1))] MM2.out (same_int _) (key_int _) Tryz.underlying88 Tryz.underlying3 rfl ?_; intro w2 m2 e2)
  have M2 := Lib.hid m2
  have S2 := Lib.hid ((S1.out.alloc _).then e2 (fun i hi h => by omega))
  have D1_2 := Lib.hid ((((Ext.refl (fun b => b = w.heap.size) w1).alloc _).then e2 (O := fun b => b = w.heap.size) (fun i hi h => h)) |>.cell D1_1.out (fun h => by simp only at h; omega))
  have D2_2 := Lib.hid (e2.cell C2.out (fun h => by simp only at h; omega))
  clear m2 e2
  refine (c_by 58 _).mono ?_
  rintro e w0 ⟨rfl, rfl⟩
  have m3 := M2.out.ext ((Ext.refl NoB _).alloc (.cells #[fnOf 58] 103)) (fun h => h)
  have c3 : (w2.alloc (.cells #[fnOf 58] 103)).cell? ⟨w2.heap.size, 0, none⟩ = some (fnOf 58) := by go_simp
  have MM3 := Lib.hid m3
  have C3 := Lib.hid c3
  have hz3 : w.heap.size < w2.heap.size := M2.out.lt
  clear m3 c3
  go_wp2_with (refine wpl_insert (kv := Value.int .i64) (d := .int .i64) rfl (.tmp 2) (.const (.int .i64 14)) (.tmp 8) 88 _ _ rfl w.heap.size rfl 14 rfl (clo w2.heap.size) rfl [(11, clo (w.heap.size + 1)), (13, clo w1.heap.size)] MM3.out (same_int _) (key_int _) Tryz.underlying88 Tryz.underlying3 rfl ?_; intro w3 m3 e3)
  have M3 := Lib.hid m3
  have S3 := Lib.hid ((S2.out.alloc _).then e3 (fun i hi h => by omega))
  have D1_3 := Lib.hid ((((Ext.refl (fun b => b = w.heap.size) w2).alloc _).then e3 (O := fun b => b = w.heap.size) (fun i hi h => h)) |>.cell D1_2.out (fun h => by simp only at h; omega))
  have D2_3 := Lib.hid ((((Ext.refl (fun b => b = w.heap.size) w2).alloc _).then e3 (O := fun b => b = w.heap.size) (fun i hi h => h)) |>.cell D2_2.out (fun h => by simp only at h; omega))
  have D3_3 := Lib.hid (e3.cell C3.out (fun h => by simp only at h; omega))
  clear m3 e3
  refine (c_by 59 _).mono ?_
  rintro e w0 ⟨rfl, rfl⟩
  have m4 := M3.out.ext ((Ext.refl NoB _).alloc (.cells #[fnOf 59] 103)) (fun h => h)
  have c4 : (w3.alloc (.cells #[fnOf 59] 103)).cell? ⟨w3.heap.size, 0, none⟩ = some (fnOf 59) := by go_simp
  have MM4 := Lib.hid m4
  have C4 := Lib.hid c4
  have hz4 : w.heap.size < w3.heap.size := M3.out.lt
  clear m4 c4
  go_wp2_with (refine wpl_insert (kv := Value.int .i64) (d := .int .i64) rfl (.tmp 2) (.const (.int .i64 15)) (.tmp 10) 88 _ _ rfl w.heap.size rfl 15 rfl (clo w3.heap.size) rfl [(11, clo (w.heap.size + 1)), (13, clo w1.heap.size), (14, clo w2.heap.size)] MM4.out (same_int _) (key_int _) Tryz.underlying88 Tryz.underlying3 rfl ?_; intro w4 m4 e4)
  have M4 := Lib.hid m4
  have S4 := Lib.hid ((S3.out.alloc _).then e4 (fun i hi h => by omega))
  have D1_4 := Lib.hid ((((Ext.refl (fun b => b = w.heap.size) w3).alloc _).then e4 (O := fun b => b = w.heap.size) (fun i hi h => h)) |>.cell D1_3.out (fun h => by simp only at h; omega))
  have D2_4 := Lib.hid ((((Ext.refl (fun b => b = w.heap.size) w3).alloc _).then e4 (O := fun b => b = w.heap.size) (fun i hi h => h)) |>.cell D2_3.out (fun h => by simp only at h; omega))
  have D3_4 := Lib.hid ((((Ext.refl (fun b => b = w.heap.size) w3).alloc _).then e4 (O := fun b => b = w.heap.size) (fun i hi h => h)) |>.cell D3_3.out (fun h => by simp only at h; omega))
  have D4_4 := Lib.hid (e4.cell C4.out (fun h => by simp only at h; omega))
  clear m4 e4
  refine (c_by 60 _).mono ?_
  rintro e w0 ⟨rfl, rfl⟩
  have m5 := M4.out.ext ((Ext.refl NoB _).alloc (.cells #[fnOf 60] 103)) (fun h => h)
  have c5 : (w4.alloc (.cells #[fnOf 60] 103)).cell? ⟨w4.heap.size, 0, none⟩ = some (fnOf 60) := by go_simp
  have MM5 := Lib.hid m5
  have C5 := Lib.hid c5
  have hz5 : w.heap.size < w4.heap.size := M4.out.lt
  clear m5 c5
  go_wp2_with (refine wpl_insert (kv := Value.int .i64) (d := .int .i64) rfl (.tmp 2) (.const (.int .i64 16)) (.tmp 12) 88 _ _ rfl w.heap.size rfl 16 rfl (clo w4.heap.size) rfl [(11, clo (w.heap.size + 1)), (13, clo w1.heap.size), (14, clo w2.heap.size), (15, clo w3.heap.size)] MM5.out (same_int _) (key_int _) Tryz.underlying88 Tryz.underlying3 rfl ?_; intro w5 m5 e5)
  have M5 := Lib.hid m5
  have S5 := Lib.hid ((S4.out.alloc _).then e5 (fun i hi h => by omega))
  have D1_5 := Lib.hid ((((Ext.refl (fun b => b = w.heap.size) w4).alloc _).then e5 (O := fun b => b = w.heap.size) (fun i hi h => h)) |>.cell D1_4.out (fun h => by simp only at h; omega))
  have D2_5 := Lib.hid ((((Ext.refl (fun b => b = w.heap.size) w4).alloc _).then e5 (O := fun b => b = w.heap.size) (fun i hi h => h)) |>.cell D2_4.out (fun h => by simp only at h; omega))
  have D3_5 := Lib.hid ((((Ext.refl (fun b => b = w.heap.size) w4).alloc _).then e5 (O := fun b => b = w.heap.size) (fun i hi h => h)) |>.cell D3_4.out (fun h => by simp only at h; omega))
  have D4_5 := Lib.hid ((((Ext.refl (fun b => b = w.heap.size) w4).alloc _).then e5 (O := fun b => b = w.heap.size) (fun i hi h => h)) |>.cell D4_4.out (fun h => by simp only at h; omega))
  have D5_5 := Lib.hid (e5.cell C5.out (fun h => by simp only at h; omega))
  clear m5 e5
  go_ret
  have nO : ∀ b, w.heap.size ≤ b → ¬ O b := fun b hb h => by have := HO.out b h; omega
  have y2 := S1.out.size
  have y3 := S2.out.size
  have y4 := S3.out.size
  have y5 := S4.out.size
  exact ⟨_, rfl, ⟨w.heap.size, _, _, _, _, _, rfl, nO _ (Nat.le_refl _), M5.out, ⟨nO _ (by omega), D1_5.out⟩, ⟨nO _ y2, D2_5.out⟩, ⟨nO _ y3, D3_5.out⟩, ⟨nO _ y4, D4_5.out⟩, ⟨nO _ y5, D5_5.out⟩⟩, S5.out⟩
end Go.Proofs.YtfpmapbimhdafaaGreatDoor

namespace Go.Proofs.YtfpmapbimhdafaaGreatDoor
open Go.RowKit
set_option linter.unusedVariables false
set_option linter.unusedSimpArgs false

/-- A test of an int. -/
def Tst (fn : Nat) (q : Int → Bool) : Prop := (∀ (c : Int) (W : World), Calls Tryz.prog fn #[.int .i64 c] W fun e w' => e = .returned (.bool (q c)) ∧ W = w') ∧ (∀ args W, (callFunc fn args).run Tryz.prog W = .ok (.enter fn args) W)
set_option maxRecDepth 100000 in
theorem tst2 : Tst 56 (fun c => c == 0) := ⟨fun c W => by
  go_enter Tryz.func56, Tryz.ntmps56
  go_wp2_with fail
  go_ret
  exact ⟨rfl, rfl⟩, fun _ _ => by kernel_rfl⟩
set_option maxRecDepth 100000 in
theorem tst3 : Tst 57 (fun c => decide (c ≤ 0)) := ⟨fun c W => by
  go_enter Tryz.func57, Tryz.ntmps57
  go_wp2_with fail
  go_ret
  exact ⟨rfl, rfl⟩, fun _ _ => by kernel_rfl⟩
set_option maxRecDepth 100000 in
theorem tst4 : Tst 58 (fun c => decide (c < 0)) := ⟨fun c W => by
  go_enter Tryz.func58, Tryz.ntmps58
  go_wp2_with fail
  go_ret
  exact ⟨rfl, rfl⟩, fun _ _ => by kernel_rfl⟩
set_option maxRecDepth 100000 in
theorem tst5 : Tst 59 (fun c => decide (0 ≤ c)) := ⟨fun c W => by
  go_enter Tryz.func59, Tryz.ntmps59
  go_wp2_with fail
  go_ret
  exact ⟨rfl, rfl⟩, fun _ _ => by kernel_rfl⟩
set_option maxRecDepth 100000 in
theorem tst6 : Tst 60 (fun c => decide (0 < c)) := ⟨fun c W => by
  go_enter Tryz.func60, Tryz.ntmps60
  go_wp2_with fail
  go_ret
  exact ⟨rfl, rfl⟩, fun _ _ => by kernel_rfl⟩

set_option maxRecDepth 100000 in
set_option maxHeartbeats 1000000 in
theorem c_clo (va vb : Value) (x y : ZInt) (p fn : Nat) (q : Int → Bool) (ht : Tst fn q) (w : World) (O : Nat → Prop) (ha : kZ.agg w O x va) (hb : kZ.agg w O y vb) (hx : zRight x = true) (hy : zRight y = true) (hp : w.cell? ⟨p, 0, none⟩ = some (fnOf fn)) :
    Calls Tryz.prog 55 #[va, vb, .pointer (some ⟨p, 0, none⟩)] w fun e w' => e = .returned (.bool (q (cmpZ x y))) ∧ Ext NoB w w' := by
  unfold fnOf at hp
  have HA := Lib.hid ha
  have HB := Lib.hid hb
  have HX := Lib.hid hx
  have HY := Lib.hid hy
  have HT := Lib.hid ht.1
  have hent := ht.2
  have lp := cell_lt hp
  obtain ⟨A, c, rfl⟩ := z_form ha
  obtain ⟨B, d, rfl⟩ := z_form hb
  clear ha hb hx hy ht
  have ST := Lib.hid (box2_start w (.bool x.neg) (.slice A x.digs.length c) (.bool y.neg) (.slice B y.digs.length d) 50 50 0)
  have hp' : ((w.alloc (Obj.cells #[.bool x.neg, .slice A x.digs.length c] 50)).alloc (Obj.cells #[.bool y.neg, .slice B y.digs.length d] 50)).drew.cell? ⟨p, 0, none⟩ = some (.func (.func fn) #[] #[]) := by go_simp
  have HP := Lib.hid hp'
  clear hp'
  go_enter Tryz.func55, Tryz.ntmps55
  go_wp2_with fail
  go_region_held3 (fun W => W.cell? ⟨w.heap.size, 0, none⟩ = some (.bool x.neg) ∧ W.cell? ⟨w.heap.size, 1, none⟩ = some (.slice A x.digs.length c) ∧ W.cell? ⟨w.heap.size + 1, 0, none⟩ = some (.bool y.neg) ∧ W.cell? ⟨w.heap.size + 1, 1, none⟩ = some (.slice B y.digs.length d) ∧ W.cell? ⟨p, 0, none⟩ = some (.func (.func fn) #[] #[]) ∧ Hid (Ext NoB w W))
    (first | exact ⟨ST.out.1, ST.out.2.1, ST.out.2.2.1, ST.out.2.2.2.1, HP.out, ST.out.2.2.2.2.2.2.2.2⟩ | assumption | (obtain ⟨p1, p2, p3, p4, p5, p6⟩ := (by assumption : _ ∧ _); exact ⟨hq.cell p1 (fun h => h), hq.cell p2 (fun h => h), hq.cell p3 (fun h => h), hq.cell p4 (fun h => h), hq.cell p5 (fun h => h), p6.out.trans hq⟩))
    (first
      | (go_at_call 22; refine (c_Cmp _ _ x y _ O (kZ.aggExt HA.out (by obtain ⟨_, _, _, _, _, h⟩ := (by assumption : _ ∧ _); exact h.out.no)) (kZ.aggExt HB.out (by obtain ⟨_, _, _, _, _, h⟩ := (by assumption : _ ∧ _); exact h.out.no)) HX.out HY.out).mono ?_; rintro e w1 ⟨rfl, hq⟩)
      | (refine (HT.out _ _).mono ?_; rintro e w2 ⟨rfl, rfl⟩))
  obtain ⟨_, _, _, _, _, hE⟩ := (by assumption : _ ∧ _)
  go_wp2_with fail
  go_ret
  exact ⟨rfl, hE.out⟩
end Go.Proofs.YtfpmapbimhdafaaGreatDoor
