/- Contracts: whether a term of the sort Bool, that is no function's, is true. Contracts: whether a term of the sort Bool is true, by each operator. Contracts: products of integers. Contracts: a numeral read. Contracts: what a term is, by what its kids are. Appends in a region that draws its order; a number in memory of its own. -/
import Derived.Test.YtfpmapbimhdafaaGreatDoorPC
import Derived.Laws.EntriesVeiled
import Derived.WideMake
namespace Go.Proofs.YtfpmapbimhdafaaGreatDoor
open Go.RowKit
set_option linter.unusedVariables false
set_option linter.unusedSimpArgs false

def adjB (q : Int → Bool) : List ZInt → Bool
  | a :: b :: l => q (cmpZ a b) && adjB q (b :: l)
  | _ => true
theorem adjB_iff {q : Int → Bool} : ∀ {xs : List ZInt}, adjB q xs = true ↔ ∀ k x y, xs[k]? = some x → xs[k + 1]? = some y → q (cmpZ x y) = true
  | [] => by simp [adjB]
  | [a] => by simp [adjB]
  | a :: b :: l => by
    rw [adjB, Bool.and_eq_true, adjB_iff]
    constructor
    · rintro ⟨h1, h2⟩ k x y hx hy
      cases k with
      | zero => simp at hx hy; rw [← hx, ← hy]; exact h1
      | succ k => exact h2 k x y (by simpa using hx) (by simpa using hy)
    · intro h
      exact ⟨h 0 a b rfl rfl, fun k x y hx hy => h (k + 1) x y (by simpa using hx) (by simpa using hy)⟩
theorem adjB_false {q : Int → Bool} {xs : List ZInt} {k : Nat} {x y : ZInt} (hx : xs[k]? = some x) (hy : xs[k + 1]? = some y) (h : q (cmpZ x y) = false) : adjB q xs = false := by
  cases hb : adjB q xs
  · rfl
  · rw [adjB_iff.1 hb k x y hx hy] at h; cases h

/-- The tests of the orders. -/
def ordOf (op : Int) : Option (Int → Bool) :=
  if op = 11 then some (fun c => c == 0) else if op = 13 then some (fun c => decide (c ≤ 0)) else if op = 14 then some (fun c => decide (c < 0)) else if op = 15 then some (fun c => decide (0 ≤ c)) else if op = 16 then some (fun c => decide (0 < c)) else none
/-- What the map of the orders gives. -/
theorem how_look {W : World} {O : Nat → Prop} {m : Value} (h : How W O m) (op : Int) :
    (ordOf op = none ∧ ∀ z, (zeroValue 47).run Tryz.prog W = .ok z W → (Instr.lookup 88 m (.int .i64 op) true).run Tryz.prog W = .ok (.tuple #[z, .bool false]) W) ∨
    (∃ q p fn, ordOf op = some q ∧ (Instr.lookup 88 m (.int .i64 op) true).run Tryz.prog W = .ok (.tuple #[clo p, .bool true]) W ∧ Tst fn q ∧ W.cell? ⟨p, 0, none⟩ = some (fnOf fn) ∧ ¬ O p) := by
  obtain ⟨r, p1, p2, p3, p4, p5, rfl, hr, hm, ⟨n1, h1⟩, ⟨n2, h2⟩, ⟨n3, h3⟩, ⟨n4, h4⟩, ⟨n5, h5⟩⟩ := h
  have hz : (zeroValue 47).run Tryz.prog W = .ok .nilFunc W := by kernel_rfl
  have hl := run_lookup_has (P := Tryz.prog) hm (same_int _) (key_int _) Tryz.underlying88 Tryz.underlying3 hz op
  by_cases e1 : op = 11
  · subst e1
    exact .inr ⟨_, p1, _, rfl, by rw [hl]; rfl, tst2, h1, n1⟩
  by_cases e2 : op = 13
  · subst e2
    exact .inr ⟨_, p2, _, rfl, by rw [hl]; rfl, tst3, h2, n2⟩
  by_cases e3 : op = 14
  · subst e3
    exact .inr ⟨_, p3, _, rfl, by rw [hl]; rfl, tst4, h3, n3⟩
  by_cases e4 : op = 15
  · subst e4
    exact .inr ⟨_, p4, _, rfl, by rw [hl]; rfl, tst5, h4, n4⟩
  by_cases e5 : op = 16
  · subst e5
    exact .inr ⟨_, p5, _, rfl, by rw [hl]; rfl, tst6, h5, n5⟩
  · refine .inl ⟨by simp [ordOf, e1, e2, e3, e4, e5], fun z hz' => ?_⟩
    have hn : lookK op [((11 : Int), clo p1), (13, clo p2), (14, clo p3), (15, clo p4), (16, clo p5)] = none := by
      simp [lookK, e1, e2, e3, e4, e5]
    have hzz := run_lookup_has (P := Tryz.prog) hm (same_int _) (key_int _) Tryz.underlying88 Tryz.underlying3 hz' op
    rw [hn] at hzz
    exact hzz

set_option maxRecDepth 100000 in
set_option maxHeartbeats 2000000 in
theorem c_truthOrd (op : Int) (q : Int → Bool) (hq : ordOf op = some q) (va m : Value) (xs : List ZInt) (w : World) (O : Nat → Prop) (ha : kZs.one w O xs va) (hm : How w O m) (hr : AllRight xs) (hn : 0 < xs.length) :
    Calls Tryz.prog 70 #[.int .i64 op, va, m] w fun e w' => e = .returned (.bool (adjB q xs)) ∧ Ext NoB w w' := by
  have hop : op = 11 ∨ op = 13 ∨ op = 14 ∨ op = 15 ∨ op = 16 := by
    unfold ordOf at hq
    repeat' split at hq
    all_goals first | omega | cases hq
  obtain ⟨A, c, rfl, hl, hmm, hrow⟩ := Kd.one_slice ha
  have h1 : xs.length ≤ 9223372036854775807 := by unfold maxLen at hmm; omega
  obtain ⟨b, off, rfl, hnb, hrow⟩ := hrow (ne_nil_of_lt hn)
  rcases how_look hm op with ⟨h, _⟩ | ⟨q', p, fn, hq', hlook, htst, hp, hnp⟩
  · rw [h] at hq; cases hq
  rw [hq] at hq'
  injection hq' with hq'
  subst hq'
  have HR := Lib.hid hr
  have HROW := Lib.hid hrow
  have HT := Lib.hid htst
  have HP := Lib.hid hp
  unfold clo at hlook
  have hent : ∀ args W, (callFunc 55 args).run Tryz.prog W = .ok (.enter 55 args) W := fun _ _ => by kernel_rfl
  clear ha hm hr hmm hrow htst hp hl hq
  have e1 : (op == 1) = false := by rw [beq_eq_false_iff_ne]; omega
  have e2 : (op == 5) = false := by rw [beq_eq_false_iff_ne]; omega
  have e3 : (op == 6) = false := by rw [beq_eq_false_iff_ne]; omega
  have e4 : (op == 7) = false := by rw [beq_eq_false_iff_ne]; omega
  have e5 : (op == 8) = false := by rw [beq_eq_false_iff_ne]; omega
  have e6 : (op == 9) = false := by rw [beq_eq_false_iff_ne]; omega
  have e7 : (op == 12) = false := by rw [beq_eq_false_iff_ne]; omega
  clear hop
  go_enter Tryz.func70, Tryz.ntmps70
  go_wp2_with fail
  go_loopw [77] (fun i wr => ∃ k : Nat, k + 1 ≤ xs.length ∧ i = .int .i64 k ∧ Hid (∀ j x y, j < k → xs[j]? = some x → xs[j + 1]? = some y → q (cmpZ x y) = true) ∧ Hid (Ext NoB w wr)) (fun i _ => xs.length - (intOf i).toNat)
  case atStart => exact ⟨0, hn, rfl, Lib.hid (fun j x y h => by omega), Lib.hid (Ext.refl _ _)⟩
  case round =>
    obtain ⟨k, hk, rfl, HK, HE⟩ := hrel
    by_cases hlt : k + 1 < xs.length
    · obtain ⟨x, hx⟩ : ∃ x, xs[k]? = some x := at_some (by omega)
      obtain ⟨y, hy⟩ : ∃ y, xs[k + 1]? = some y := at_some (by omega)
      obtain ⟨Ax, cx, ⟨x0, x1⟩, hvx⟩ := row_z HROW.out hx
      obtain ⟨Ay, cy, ⟨y0, y1⟩, hvy⟩ := row_z HROW.out hy
      replace x0 := HE.out.cell x0 (fun h => h)
      replace x1 := HE.out.cell x1 (fun h => h)
      replace y0 := HE.out.cell y0 (fun h => h)
      replace y1 := HE.out.cell y1 (fun h => h)
      have HVX := Lib.hid hvx
      have HVY := Lib.hid hvy
      have RX := Lib.hid (HR.out.at_ hx)
      have RY := Lib.hid (HR.out.at_ hy)
      have KX := Lib.hid hx
      have KY := Lib.hid hy
      clear hvx hvy hx hy
      have q0 : (0 : Int) ≤ (k : Int) := by omega
      have q1 : (k : Int) < (xs.length : Int) := by omega
      have q4 : ((k : Int) + 1) < (xs.length : Int) := by omega
      have q5 : (0 : Int) ≤ (k : Int) + 1 := by omega
      have q6 : (k : Int) < (xs.length : Int) - 1 := by omega
      have hw3 : IntKind.i64.wrap ((k : Int) + 1) = (k : Int) + 1 := by rw [IntWalk.i64_in _ (by omega)]
      have HQ : Hid (Ext NoB w wr.drew) := HE.out.drew
      go_wp2_with fail
      go_region_held3 (fun W => W.cell? ⟨b, off + (k + 1) * 2, none⟩ = some (.bool y.neg) ∧ W.cell? ⟨b, off + (k + 1) * 2 + 1, none⟩ = some (.slice Ay y.digs.length cy) ∧ W.cell? ⟨b, off + k * 2, none⟩ = some (.bool x.neg) ∧ W.cell? ⟨b, off + k * 2 + 1, none⟩ = some (.slice Ax x.digs.length cx) ∧ Hid (Ext NoB w W))
        (first | exact ⟨y0, y1, x0, x1, HQ⟩ | assumption | (obtain ⟨p1, p2, p3, p4, p5⟩ := (by assumption : _ ∧ _); exact ⟨hq4.cell p1 (fun h => h), hq4.cell p2 (fun h => h), hq4.cell p3 (fun h => h), hq4.cell p4 (fun h => h), p5.out.trans hq4⟩))
        (first | (go_at_call 55; refine (c_clo _ _ x y p fn q HT.out _ O (zv_mk (kDigs.oneExt HVX.out HQ.out.no)) (zv_mk (kDigs.oneExt HVY.out HQ.out.no)) RX.out RY.out (HQ.out.cell HP.out (fun h => h))).mono ?_; rintro e w4 ⟨rfl, hq4⟩))
      have HW4 := Lib.hid (HQ.out.trans hq4)
      clear hq4 HQ x0 x1 y0 y1 hw3
      cases hb : q (cmpZ x y)
      · have HF := Lib.hid (adjB_false KX.out KY.out hb)
        go_wp2_with fail
        go_ret
        exact ⟨retB HF.out.symm, HW4.out⟩
      · have HB := Lib.hid hb
        go_wp2_with fail
        refine ⟨⟨k + 1, by omega, by go_num, Lib.hid (fun i a c hi ha hc => ?_), HW4⟩, by simp [intOf]; omega⟩
        rcases Nat.lt_or_ge i k with h | h
        · exact HK.out i a c h ha hc
        · obtain rfl : i = k := by omega
          rw [KX.out] at ha
          rw [KY.out] at hc
          injection ha with ha
          injection hc with hc
          subst ha hc
          exact HB.out
    · have HF := Lib.hid (show adjB q xs = true from adjB_iff.2 (fun i a c ha hc => HK.out i a c (by have := (List.getElem?_eq_some_iff.1 hc).1; omega) ha hc))
      have q6 : ¬ (k : Int) < (xs.length : Int) - 1 := by omega
      go_wp2_with fail
      go_ret
      exact ⟨retB HF.out.symm, HE.out⟩
end Go.Proofs.YtfpmapbimhdafaaGreatDoor

namespace Go.Proofs.YtfpmapbimhdafaaGreatDoor
open Go.RowKit
set_option linter.unusedVariables false
set_option linter.unusedSimpArgs false

def zNo (x : ZInt) : Bool := !zYes x
theorem prd_no' : Prd 90 zNo := prd_no
def xorB (xs : List ZInt) : Bool := xs.foldl (fun odd x => odd != zYes x) false
def lastZ (xs : List ZInt) : ZInt := xs.getD (xs.length - 1) ⟨false, []⟩
def headZ (xs : List ZInt) : ZInt := xs.getD 0 ⟨false, []⟩
def truthT (op : Int) (kids : List ZInt) : Bool :=
  if op = 1 then true else if op = 5 then zNo (headZ kids) else if op = 6 then !kids.any zNo else if op = 7 then kids.any zYes else if op = 8 then xorB kids
  else if op = 9 then zYes (lastZ kids) || (kids.take (kids.length - 1)).any zNo else if op = 12 then apartB kids else match ordOf op with | some q => adjB q kids | none => false

set_option maxRecDepth 100000 in
set_option maxHeartbeats 1000000 in
theorem c_truth1 (va m : Value) (w : World) : Calls Tryz.prog 70 #[.int .i64 1, va, m] w fun e w' => e = .returned (.bool true) ∧ Ext NoB w w' := by
  go_enter Tryz.func70, Tryz.ntmps70
  go_wp2_with fail
  go_ret
  exact ⟨rfl, Ext.refl _ _⟩
set_option maxRecDepth 100000 in
set_option maxHeartbeats 1000000 in
theorem c_truth5 (va m : Value) (xs : List ZInt) (w : World) (O : Nat → Prop) (ha : kZs.one w O xs va) (hn : 0 < xs.length) : Calls Tryz.prog 70 #[.int .i64 5, va, m] w fun e w' => e = .returned (.bool (zNo (headZ xs))) ∧ Ext NoB w w' := by
  obtain ⟨A, c, rfl, hl, hmm, hrow⟩ := Kd.one_slice ha
  obtain ⟨b, off, rfl, hnb, hrow⟩ := hrow (ne_nil_of_lt hn)
  obtain ⟨x, hx⟩ := at_some hn
  obtain ⟨Ax, cx, ⟨x0, x1⟩, hvx⟩ := row_z hrow hx
  have HVX := Lib.hid hvx
  have HH : Hid (headZ xs = x) := Lib.hid (by rw [headZ, List.getD_eq_getElem?_getD, hx]; rfl)
  rw [Nat.zero_mul, Nat.add_zero] at x0 x1
  clear ha hrow hvx hx hmm
  go_enter Tryz.func70, Tryz.ntmps70
  go_wp2_with fail
  refine (c_no _ x _ O (zv_mk HVX.out)).mono ?_
  rintro e w1 ⟨rfl, he⟩
  have HE := Lib.hid he
  clear he
  go_wp2_with fail
  go_ret
  exact ⟨retB (by rw [HH.out]; rfl), HE.out⟩
set_option maxRecDepth 100000 in
set_option maxHeartbeats 1000000 in
theorem c_truth6 (va m : Value) (xs : List ZInt) (w : World) (O : Nat → Prop) (ha : kZs.one w O xs va) : Calls Tryz.prog 70 #[.int .i64 6, va, m] w fun e w' => e = .returned (.bool (!xs.any zNo)) ∧ Ext NoB w w' := by
  have HC := Lib.hid (c_ContainsFunc va xs _ zNo prd_no' enter_no w O ha)
  clear ha
  go_enter Tryz.func70, Tryz.ntmps70
  go_wp2_with fail
  refine HC.out.mono ?_
  rintro e w1 ⟨rfl, he⟩
  have HE := Lib.hid he
  clear he
  go_wp2_with fail
  go_ret
  exact ⟨rfl, HE.out⟩
set_option maxRecDepth 100000 in
set_option maxHeartbeats 1000000 in
theorem c_truth7 (va m : Value) (xs : List ZInt) (w : World) (O : Nat → Prop) (ha : kZs.one w O xs va) : Calls Tryz.prog 70 #[.int .i64 7, va, m] w fun e w' => e = .returned (.bool (xs.any zYes)) ∧ Ext NoB w w' := by
  have HC := Lib.hid (c_ContainsFunc va xs _ zYes prd_yes enter_yes w O ha)
  clear ha
  go_enter Tryz.func70, Tryz.ntmps70
  go_wp2_with fail
  refine HC.out.mono ?_
  rintro e w1 ⟨rfl, he⟩
  have HE := Lib.hid he
  clear he
  go_wp2_with fail
  go_ret
  exact ⟨rfl, HE.out⟩
set_option maxRecDepth 100000 in
set_option maxHeartbeats 1000000 in
theorem c_truth8 (va m : Value) (xs : List ZInt) (w : World) (O : Nat → Prop) (ha : kZs.one w O xs va) : Calls Tryz.prog 70 #[.int .i64 8, va, m] w fun e w' => e = .returned (.bool (xorB xs)) ∧ Ext NoB w w' := by
  obtain ⟨A, c, rfl, hl, hmm, hrow⟩ := Kd.one_slice ha
  have h1 : xs.length ≤ 9223372036854775807 := by unfold maxLen at hmm; omega
  have HROW := Lib.hid hrow
  clear ha hrow hmm
  go_enter Tryz.func70, Tryz.ntmps70
  go_wp2_with fail
  go_loopw [7, 36] (fun o i wr => ∃ (k : Nat) (s : Bool), k ≤ xs.length ∧ i = .int .i64 k ∧ o = .bool s ∧ Hid (s = (xs.take k).foldl (fun odd x => odd != zYes x) false) ∧ Hid (Ext NoB w wr)) (fun _ i _ => xs.length - (intOf i).toNat)
  case atStart => exact ⟨0, false, Nat.zero_le _, rfl, rfl, Lib.hid rfl, Lib.hid (Ext.refl _ _)⟩
  case round =>
    obtain ⟨k, s, hk, rfl, rfl, HS, HE⟩ := hrel
    by_cases hlt : k < xs.length
    · obtain ⟨b, off, rfl, hnb, hrow⟩ := HROW.out (ne_nil_of_lt hlt)
      obtain ⟨x, hx⟩ := at_some hlt
      obtain ⟨Ax, cx, ⟨x0, x1⟩, hvx⟩ := row_z hrow hx
      replace x0 := HE.out.cell x0 (fun h => h)
      replace x1 := HE.out.cell x1 (fun h => h)
      have HVX := Lib.hid hvx
      have KX := Lib.hid hx
      clear hrow hvx hx hnb
      go_wp2_with fail
      refine (c_yes _ x _ O (zv_mk (kDigs.oneExt HVX.out (HE.out.alloc _).no))).mono ?_
      rintro e w1 ⟨rfl, he⟩
      have HE2 := Lib.hid ((HE.out.alloc _).trans he)
      clear he
      go_wp2_with fail
      exact ⟨⟨k + 1, _, by omega, by go_num, rfl, Lib.hid (by rw [List.take_add_one, KX.out, List.foldl_append, ← HS.out]; rfl), HE2⟩, by simp [intOf]; omega⟩
    · have HF := Lib.hid (show s = xorB xs by have h := HS.out; rwa [List.take_of_length_le (by omega)] at h)
      go_wp2_with fail
      go_ret
      exact ⟨retB HF.out, HE.out⟩
set_option maxRecDepth 100000 in
set_option maxHeartbeats 1000000 in
theorem c_truth9 (va m : Value) (xs : List ZInt) (w : World) (O : Nat → Prop) (ha : kZs.one w O xs va) (hn : 0 < xs.length) : Calls Tryz.prog 70 #[.int .i64 9, va, m] w fun e w' => e = .returned (.bool (zYes (lastZ xs) || (xs.take (xs.length - 1)).any zNo)) ∧ Ext NoB w w' := by
  obtain ⟨A, c, rfl, hl, hmm, hrow⟩ := Kd.one_slice ha
  have h1 : xs.length ≤ 9223372036854775807 := by unfold maxLen at hmm; omega
  have HT := Lib.hid (slice_take (pos := by decide) (show xs.length - 1 ≤ xs.length by omega) hl hmm hrow)
  obtain ⟨b, off, rfl, hnb, hrow⟩ := hrow (ne_nil_of_lt hn)
  obtain ⟨j, hj⟩ : ∃ j, xs.length = j + 1 := ⟨xs.length - 1, by omega⟩
  obtain ⟨x, hx⟩ : ∃ x, xs[j]? = some x := at_some (by omega)
  obtain ⟨Ax, cx, ⟨x0, x1⟩, hvx⟩ := row_z hrow hx
  have HVX := Lib.hid hvx
  have HH : Hid (lastZ xs = x) := Lib.hid (by rw [lastZ, List.getD_eq_getElem?_getD, hj, Nat.add_sub_cancel, hx]; rfl)
  rw [hj, Nat.add_sub_cancel] at HT
  rw [hj]
  have HJ := Lib.hid hj
  rw [hj] at hl h1
  clear ha hrow hvx hx hmm hj hn
  have q1 : ((j + 1 : Nat) : Int) - 1 = (j : Int) := by omega
  go_enter Tryz.func70, Tryz.ntmps70
  go_wp2_with fail
  refine (c_yes _ x _ O (zv_mk HVX.out)).mono ?_
  rintro e w1 ⟨rfl, he⟩
  have HE := Lib.hid he
  clear he
  cases hy : zYes x
  · have HY := Lib.hid hy
    clear hy
    go_wp2_with fail
    refine (c_ContainsFunc _ (xs.take j) _ zNo prd_no' enter_no _ O (kZs.oneExt HT.out HE.out.no)).mono ?_
    rintro e w2 ⟨rfl, he2⟩
    have HE2 := Lib.hid (HE.out.trans he2)
    clear he2
    go_wp2_with fail
    go_ret
    exact ⟨retB (by rw [HH.out, HY.out]; rfl), HE2.out⟩
  · have HY := Lib.hid hy
    clear hy
    go_wp2_with fail
    go_ret
    exact ⟨retB (by rw [HH.out, HY.out]; rfl), HE.out⟩
set_option maxRecDepth 100000 in
set_option maxHeartbeats 1000000 in
theorem c_truth12 (va m : Value) (xs : List ZInt) (w : World) (O : Nat → Prop) (ha : kZs.one w O xs va) (hO : OldO O w) (hr : AllRight xs) (hn : 0 < xs.length) (h12 : xs.length ≤ 12) : Calls Tryz.prog 70 #[.int .i64 12, va, m] w fun e w' => e = .returned (.bool (apartB xs)) ∧ Ext NoB w w' := by
  have HC := Lib.hid (c_apart va xs w O ha hO hr hn h12)
  clear ha hO hr
  go_enter Tryz.func70, Tryz.ntmps70
  go_wp2_with fail
  refine HC.out.mono ?_
  rintro e w1 ⟨rfl, he⟩
  have HE := Lib.hid he
  clear he
  go_wp2_with fail
  go_ret
  exact ⟨rfl, HE.out⟩
set_option maxRecDepth 100000 in
set_option maxHeartbeats 1000000 in
theorem c_truthNone (op : Int) (va m : Value) (w : World) (O : Nat → Prop) (hm : How w O m) (ho : ordOf op = none) (hne : op ≠ 1 ∧ op ≠ 5 ∧ op ≠ 6 ∧ op ≠ 7 ∧ op ≠ 8 ∧ op ≠ 9 ∧ op ≠ 12) : Calls Tryz.prog 70 #[.int .i64 op, va, m] w fun e w' => e = .returned (.bool false) ∧ Ext NoB w w' := by
  rcases how_look hm op with ⟨_, hlook⟩ | ⟨q', p, fn, hq', _⟩
  · have hl := hlook .nilFunc (by kernel_rfl)
    clear hlook hm ho
    have e1 : (op == 1) = false := by rw [beq_eq_false_iff_ne]; omega
    have e2 : (op == 5) = false := by rw [beq_eq_false_iff_ne]; omega
    have e3 : (op == 6) = false := by rw [beq_eq_false_iff_ne]; omega
    have e4 : (op == 7) = false := by rw [beq_eq_false_iff_ne]; omega
    have e5 : (op == 8) = false := by rw [beq_eq_false_iff_ne]; omega
    have e6 : (op == 9) = false := by rw [beq_eq_false_iff_ne]; omega
    have e7 : (op == 12) = false := by rw [beq_eq_false_iff_ne]; omega
    clear hne
    go_enter Tryz.func70, Tryz.ntmps70
    go_wp2_with fail
    go_ret
    exact ⟨rfl, Ext.refl _ _⟩
  · rw [ho] at hq'; cases hq'

/-- Kids that an operator may have. -/
def KidsOk (op : Int) (n : Nat) : Prop := ((op = 5 ∨ op = 9 ∨ op = 12 ∨ (ordOf op).isSome = true) → 0 < n) ∧ n ≤ 12
theorem c_truth (op : Int) (va m : Value) (xs : List ZInt) (w : World) (O : Nat → Prop) (ha : kZs.one w O xs va) (hO : OldO O w) (hm : How w O m) (hr : AllRight xs) (hk : KidsOk op xs.length) :
    Calls Tryz.prog 70 #[.int .i64 op, va, m] w fun e w' => e = .returned (.bool (truthT op xs)) ∧ Ext NoB w w' := by
  unfold truthT
  by_cases e1 : op = 1
  · subst e1; exact c_truth1 va m w
  by_cases e5 : op = 5
  · subst e5; exact c_truth5 va m xs w O ha (hk.1 (.inl rfl))
  by_cases e6 : op = 6
  · subst e6; exact c_truth6 va m xs w O ha
  by_cases e7 : op = 7
  · subst e7; exact c_truth7 va m xs w O ha
  by_cases e8 : op = 8
  · subst e8; exact c_truth8 va m xs w O ha
  by_cases e9 : op = 9
  · subst e9; exact c_truth9 va m xs w O ha (hk.1 (.inr (.inl rfl)))
  by_cases e12 : op = 12
  · subst e12; exact c_truth12 va m xs w O ha hO hr (hk.1 (.inr (.inr (.inl rfl)))) hk.2
  · simp only [e1, e5, e6, e7, e8, e9, e12, if_false]
    cases ho : ordOf op with
    | none => exact c_truthNone op va m w O hm ho ⟨e1, e5, e6, e7, e8, e9, e12⟩
    | some q => exact c_truthOrd op q ho va m xs w O ha hm hr (hk.1 (.inr (.inr (.inr (by rw [ho]; rfl)))))
end Go.Proofs.YtfpmapbimhdafaaGreatDoor

namespace Go.Proofs.YtfpmapbimhdafaaGreatDoor
open Go.RowKit
set_option linter.unusedVariables false
set_option linter.unusedSimpArgs false

theorem Own.frozenAt {α : Type} {k : Kd α} {W : World} {base g n c : Nat} {e : TypeId} {O : Nat → Prop} {xs : List α} (h : Own W base e k O (.slice (some ⟨g, 0, none⟩) n c) xs) (j : Nat) : W.frozen? ⟨g, j, none⟩ = false := by
  obtain ⟨A, c', hv, _, _⟩ := h.shape
  injection hv with h1 h2 h3
  obtain ⟨css, h1, _⟩ := h
  subst h2
  exact h1.frozenAt j
theorem Own.int_at {ik : IntKind} {W : World} {base g n c : Nat} {e : TypeId} {O : Nat → Prop} {xs : List Int} (h : Own W base e (Kd.int ik) O (.slice (some ⟨g, 0, none⟩) n c) xs) {k : Nat} (hk : k < xs.length) :
    W.cell? ⟨g, k, none⟩ = some (.int ik (rdI xs k)) ∧ (Lit.int ik (rdI xs k)).wf = true := by
  obtain ⟨css, hrow, hall⟩ := h
  have hs : ∀ c ∈ css, c.length = 1 := fun c hc => by
    obtain ⟨y, _, hy⟩ := hall.mem c hc
    exact (Kd.int ik).len hy
  obtain ⟨cs, hcs, hr⟩ := hall.at_ k xs[k] (List.getElem?_eq_getElem hk)
  obtain ⟨rfl, hwf⟩ := hr
  have c0 := hrow.cells (g := g) rfl _ _ (flat_at hs k _ 0 _ hcs rfl)
  rw [add_at, Nat.zero_add, Nat.mul_one, Nat.add_zero, ← rdI_eq hk] at c0
  rw [← rdI_eq hk] at hwf
  exact ⟨c0, hwf⟩
theorem Own.set1 {α : Type} {k : Kd α} {W : World} {base g n c : Nat} {e : TypeId} {O : Nat → Prop} {xs : List α} (hk : k.size = 1) (h : Own W base e k O (.slice (some ⟨g, 0, none⟩) n c) xs) {j : Nat} (hj : j < xs.length) {x : α} {u : Value} (hx : k.rep W (PlusV O (.slice (some ⟨g, 0, none⟩) n c)) x [u]) :
    Own (W.setCell ⟨g, j, none⟩ u) base e k O (.slice (some ⟨g, 0, none⟩) n c) (xs.set j x) ∧ Ext (fun b => (Value.slice (some ⟨g, 0, none⟩) n c).ownBlock = some b) W (W.setCell ⟨g, j, none⟩ u) := by
  have hE : Ext (fun b => (Value.slice (some ⟨g, 0, none⟩) n c).ownBlock = some b) W (W.setCell ⟨g, j, none⟩ u) := (Ext.refl (fun b => (Value.slice (some ⟨g, 0, none⟩) n c).ownBlock = some b) W).setO (p := ⟨g, j, none⟩) rfl _
  obtain ⟨css, h1, h2⟩ := h
  have hs : ∀ c ∈ css, c.length = 1 := fun c hc => by
    obtain ⟨y, _, hy⟩ := h2.mem c hc
    exact (k.len hy).trans hk
  have hl : css.length = xs.length := h2.length.symm
  have hn : n = xs.length := by
    rcases h1.2 with ⟨h, _⟩ | ⟨_, _, _, h, _⟩
    · cases h
    · injection h
  subst hn
  have s1 := (h1.stored j u).1
  refine ⟨⟨css.set j [u], ?_, ?_⟩, hE⟩
  · rw [List.length_set]
    have f1 := flat_set hs j 0 u (by omega) (by omega)
    rw [Nat.add_zero, Nat.mul_one] at f1
    rw [f1] at s1
    have hcs : (css.getD j []).length = 1 := by
      rw [List.getD_eq_getElem?_getD, List.getElem?_eq_getElem (by omega)]
      exact hs _ (List.getElem_mem (by omega))
    have he : (css.getD j []).set 0 u = [u] := by
      match css.getD j [], hcs with
      | [a], _ => rfl
    rw [he] at s1
    exact s1
  · refine (h2.set j hx).mono fun y cs hy => k.keep hy fun b hb hnb => ⟨hnb, hE.block b hb fun hO => hnb (.inr hO)⟩

/-! Products. -/
def mulIn (a : Int) (ys os : List Int) (i : Nat) : Nat → List Int × Int
  | 0 => (os, 0)
  | j + 1 =>
    let t := (mulIn a ys os i j).2 + (rdI (mulIn a ys os i j).1 (i + j) + a * rdI ys j)
    ((mulIn a ys os i j).1.set (i + j) (t % 1000000000), t / 1000000000)
def mulOut (xs ys : List Int) : Nat → List Int
  | 0 => List.replicate (xs.length + ys.length) 0
  | i + 1 => (mulIn (rdI xs i) ys (mulOut xs ys i) i ys.length).1.set (i + ys.length) (mulIn (rdI xs i) ys (mulOut xs ys i) i ys.length).2
def mulZ (x y : ZInt) : ZInt := signZ (x.neg != y.neg) (mulOut x.digs y.digs x.digs.length)
theorem mulIn_step {a : Int} {ys os os' : List Int} {i j : Nat} {q t : Int} (h : mulIn a ys os i j = (os', q)) (ht : t = q + (rdI os' (i + j) + a * rdI ys j)) : mulIn a ys os i (j + 1) = (os'.set (i + j) (t % 1000000000), t / 1000000000) := by
  rw [mulIn, h, ht]
theorem mulOut_step {xs ys os os' : List Int} {i : Nat} {q : Int} (h0 : os = mulOut xs ys i) (h : mulIn (rdI xs i) ys os i ys.length = (os', q)) : mulOut xs ys (i + 1) = os'.set (i + ys.length) q := by
  rw [mulOut, ← h0, h]
theorem digR_set {xs : List Int} {k : Nat} {v : Int} (h : DigR xs) (h0 : 0 ≤ v) (h1 : v < 1000000000) : DigR (xs.set k v) := by
  intro i hi
  rw [List.length_set] at hi
  have := h i hi
  rw [rdI, List.getD_eq_getElem?_getD, List.getElem?_set]
  split
  · subst_vars; simp [hi]; exact ⟨h0, h1⟩
  · simpa [rdI, List.getD_eq_getElem?_getD] using this
theorem digR_zero (n : Nat) : DigR (List.replicate n 0) := by
  intro k hk
  rw [List.length_replicate] at hk
  simp [rdI, List.getD_eq_getElem?_getD, hk]
theorem prod_dig {a b : Int} (ha : 0 ≤ a ∧ a < 1000000000) (hb : 0 ≤ b ∧ b < 1000000000) : 0 ≤ a * b ∧ a * b ≤ 999999998000000001 := by
  refine ⟨Int.mul_nonneg ha.1 hb.1, ?_⟩
  have := Int.mul_le_mul (show a ≤ 999999999 by omega) (show b ≤ 999999999 by omega) hb.1 (by omega)
  omega
theorem mulIn_len (a : Int) (ys os : List Int) (i : Nat) : ∀ j, (mulIn a ys os i j).1.length = os.length
  | 0 => rfl
  | j + 1 => by rw [mulIn, List.length_set, mulIn_len a ys os i j]
theorem mulOut_len (xs ys : List Int) : ∀ i, (mulOut xs ys i).length = xs.length + ys.length
  | 0 => by rw [mulOut, List.length_replicate]
  | i + 1 => by rw [mulOut, List.length_set, mulIn_len, mulOut_len xs ys i]
theorem mulIn_dig {a : Int} {ys os : List Int} {i m : Nat} (ha : 0 ≤ a ∧ a < 1000000000) (hy : DigR ys) (ho : DigR os) (hl : os.length = i + 1 + m + ys.length) : ∀ j, j ≤ ys.length → DigR (mulIn a ys os i j).1 ∧ 0 ≤ (mulIn a ys os i j).2 ∧ (mulIn a ys os i j).2 < 1000000000
  | 0, _ => ⟨ho, by simp [mulIn], by simp [mulIn]⟩
  | j + 1, hj => by
    obtain ⟨h1, h2, h3⟩ := mulIn_dig ha hy ho hl j (by omega)
    have h4 := h1 (i + j) (by rw [mulIn_len]; omega)
    have h5 := prod_dig ha (hy j (by omega))
    rw [mulIn]
    generalize (mulIn a ys os i j).2 = q at *
    generalize rdI (mulIn a ys os i j).1 (i + j) = o at *
    generalize a * rdI ys j = p at *
    exact ⟨digR_set h1 (by omega) (by omega), by omega, by omega⟩
theorem mulOut_dig {xs ys : List Int} (hx : DigR xs) (hy : DigR ys) : ∀ i, i ≤ xs.length → DigR (mulOut xs ys i)
  | 0, _ => digR_zero _
  | i + 1, hi => by
    have h := mulIn_dig (i := i) (m := xs.length - i - 1) (hx i (by omega)) hy (mulOut_dig hx hy i (by omega)) (by rw [mulOut_len]; omega) ys.length (Nat.le_refl _)
    rw [mulOut]
    exact digR_set h.1 h.2.1 h.2.2
theorem mulZ_right {x y : ZInt} (hx : DigR x.digs) (hy : DigR y.digs) : zRight (mulZ x y) = true := signZ_right (mulOut_dig hx hy _ (Nat.le_refl _))
theorem mulZ_len {x y : ZInt} : (mulZ x y).digs.length ≤ x.digs.length + y.digs.length := by
  have := signZ_len (neg := (x.neg != y.neg)) (xs := mulOut x.digs y.digs x.digs.length)
  rw [mulOut_len] at this
  exact this
theorem Box3.hi {w W W' : World} {v0 v1 v2 v3 v4 v5 : Value} (h : Box3 w v0 v1 v2 v3 v4 v5 W) {g n c : Nat} (hg : w.heap.size + 3 ≤ g) (he : Ext (fun b => (Value.slice (some ⟨g, 0, none⟩) n c).ownBlock = some b) W W') : Box3 w v0 v1 v2 v3 v4 v5 W' := by
  obtain ⟨h0, h1, h2, h3, h4, h5, f0, f1, f2, f3, f4, f5, hE⟩ := h
  have no : ∀ b, b < w.heap.size + 3 → ¬ (Value.slice (some ⟨g, 0, none⟩) n c).ownBlock = some b := fun b hb h => by
    have h : g = b := by simpa [Value.ownBlock] using h
    omega
  have n0 := no w.heap.size (by omega)
  have n1 := no (w.heap.size + 1) (by omega)
  have n2 := no (w.heap.size + 1 + 1) (by omega)
  exact ⟨he.cell h0 n0, he.cell h1 n0, he.cell h2 n1, he.cell h3 n1, he.cell h4 n2, he.cell h5 n2, (he.frozen (cell_lt h0) n0).trans f0, (he.frozen (cell_lt h1) n0).trans f1,
    (he.frozen (cell_lt h2) n1).trans f2, (he.frozen (cell_lt h3) n1).trans f3, (he.frozen (cell_lt h4) n2).trans f4, (he.frozen (cell_lt h5) n2).trans f5, hE.out.then he fun i hi h => absurd h (no i (by omega))⟩

section
attribute [local go_sem] setCell_same
set_option maxRecDepth 100000 in
set_option maxHeartbeats 2000000 in
theorem c_Mul (va vb : Value) (x y : ZInt) (w : World) (O : Nat → Prop) (ha : kZ.agg w O x va) (hb : kZ.agg w O y vb) (hO : OldO O w) (hx : zRight x = true) (hy : zRight y = true) (lx : x.digs.length ≤ 100000000) (ly : y.digs.length ≤ 100000000) :
    Calls Tryz.prog 67 #[va, vb] w fun e w' => ∃ v, e = .returned v ∧ kZ.agg w' O (mulZ x y) v ∧ Ext NoB w w' := by
  obtain ⟨s, xs⟩ := x
  obtain ⟨t, ys⟩ := y
  simp only at lx ly
  have ha0 := ha
  have hb0 := hb
  have dx : DigR xs := z_digR ha hx
  have dy : DigR ys := z_digR hb hy
  obtain ⟨A, c, rfl, hl, hm, hr⟩ := z_open ha
  obtain ⟨B, d, rfl, hl', hm', hr'⟩ := z_open hb
  simp only at hr hr' ha0 hb0
  have HA := Lib.hid ha0
  have HB := Lib.hid hb0
  have RA := Lib.hid hr
  have RB := Lib.hid hr'
  have HX := Lib.hid hx
  have HY := Lib.hid hy
  have DX := Lib.hid dx
  have DY := Lib.hid dy
  have HO := Lib.hid hO
  clear hr hr' ha hb hx hy ha0 hb0 hm hl hm' hl' dx dy hO
  have ST := Lib.hid (Box3.start w (.bool s) (.slice A xs.length c) (.bool t) (.slice B ys.length d) (.bool false) (.slice none 0 0) 50 50 50)
  go_enter Tryz.func67, Tryz.ntmps67
  go_wp2_with fail
  go_region_held3 (fun W => W.cell? ⟨w.heap.size, 0, none⟩ = some (.bool s) ∧ W.cell? ⟨w.heap.size, 1, none⟩ = some (.slice A xs.length c) ∧ W.cell? ⟨w.heap.size + 1, 0, none⟩ = some (.bool t) ∧ W.cell? ⟨w.heap.size + 1, 1, none⟩ = some (.slice B ys.length d) ∧ W.cell? ⟨w.heap.size + 1 + 1, 0, none⟩ = some (.bool false) ∧ W.cell? ⟨w.heap.size + 1 + 1, 1, none⟩ = some (.slice none 0 0)
      ∧ W.frozen? ⟨w.heap.size, 0, none⟩ = false ∧ W.frozen? ⟨w.heap.size, 1, none⟩ = false ∧ W.frozen? ⟨w.heap.size + 1, 0, none⟩ = false ∧ W.frozen? ⟨w.heap.size + 1, 1, none⟩ = false ∧ W.frozen? ⟨w.heap.size + 1 + 1, 0, none⟩ = false ∧ W.frozen? ⟨w.heap.size + 1 + 1, 1, none⟩ = false ∧ Hid (Ext NoB w W))
    (first | exact ST.out.drew | assumption | (refine Box3.ext ?_ (by assumption) <;> assumption))
    (first
      | (go_at_call 42; with_reducible refine (c_right _ ⟨s, xs⟩ _ O (kZ.aggExt HA.out (by obtain ⟨_, _, _, _, _, _, _, _, _, _, _, _, h⟩ := (by assumption : _ ∧ _); exact h.out.no)) HX.out).mono ?_; rintro e w1 ⟨rfl, hq⟩)
      | (go_at_call 42; with_reducible refine (c_right _ ⟨t, ys⟩ _ O (kZ.aggExt HB.out (by obtain ⟨_, _, _, _, _, _, _, _, _, _, _, _, h⟩ := (by assumption : _ ∧ _); exact h.out.no)) HY.out).mono ?_; rintro e w1 ⟨rfl, hq⟩))
  all_goals
    have HB3 := (by assumption : _ ∧ _)
    have H3 : Hid (Box3 w (.bool s) (.slice A xs.length c) (.bool t) (.slice B ys.length d) (.bool false) (.slice none 0 0) _) := HB3
    obtain ⟨c0, c1, d0, d1, e0, e1, f0, f1, g0, g1, i0, i1, HE⟩ := HB3
    have hsz := H3.out.size
    go_wp2_with (at_make; refine wpl_makeN kU rfl (.tmp 21) (.tmp 21) 48 rfl (w.heap.size + 3) 101 _ 4 Tryz.underlying48 info_u32 rfl (Plus O (w.heap.size + 1 + 1)) .i64 .i64 ((xs.length : Int) + ys.length) ((xs.length : Int) + ys.length) (xs.length + ys.length) rfl rfl (by omega) (by omega) (by omega) (by omega) (by omega) 0 (fun _ _ => ⟨rfl, by decide⟩) ?_; intro v1 w5 hv1 hO1 hE1; subst hv1; (have H4 := Lib.hid (H3.out.ext hE1)); (replace hsz : w.heap.size + 3 ≤ w1.heap.size := hsz); clear H3 HE c0 c1 d0 d1 e0 e1 f0 f1 g0 g1 i0 i1 hE1; generalize w1.heap.size = G at hO1 hsz ⊢; (obtain ⟨c0, c1, d0, d1, e0, e1, f0, f1, g0, g1, i0, i1, HE⟩ := H4.out))
    clear c0 c1 d0 d1 e0 e1 f0 f1 g0 g1 i0 i1 HE
    go_loopw [26] (fun i wr => ∃ (k : Nat) (os : List Int), k ≤ xs.length ∧ i = .int .i64 k ∧ Hid (os = mulOut xs ys k) ∧ Hid (Own wr (w.heap.size + 3) 101 kU (Plus O (w.heap.size + 1 + 1)) (.slice (some ⟨G, 0, none⟩) (xs.length + ys.length) (xs.length + ys.length)) os) ∧
      Hid (Box3 w (.bool s) (.slice A xs.length c) (.bool t) (.slice B ys.length d) (.bool false) (.slice none 0 0) wr)) (fun i _ => xs.length - (intOf i).toNat)
    case atStart => exact ⟨0, _, Nat.zero_le _, rfl, Lib.hid rfl, Lib.hid hO1, H4⟩
    case round =>
      obtain ⟨k, os, hk, rfl, HOS, HOW, HBX⟩ := hrel
      clear H4 hO1
      obtain ⟨c0, c1, d0, d1, e0, e1, f0, f1, g0, g1, i0, i1, HE⟩ := HBX.out
      by_cases hlt : k < xs.length
      · obtain ⟨b1, off1, rfl, _, x1, _⟩ := ints_at RA.out hlt
        replace x1 := HE.out.cell x1 (fun h => h)
        obtain ⟨a0, a1⟩ := DX.out k hlt
        go_wp2_with fail
        clear c0 c1 d0 d1 e0 e1 f0 f1 g0 g1 i0 i1 HE x1
        go_loopw [8, 34] (fun cc i wr => ∃ (j : Nat) (q : Int) (os' : List Int), j ≤ ys.length ∧ i = .int .i64 j ∧ cc = .int .u64 q ∧ 0 ≤ q ∧ q < 1000000000 ∧ Hid (mulIn (rdI xs k) ys os k j = (os', q)) ∧ Hid (Own wr (w.heap.size + 3) 101 kU (Plus O (w.heap.size + 1 + 1)) (.slice (some ⟨G, 0, none⟩) (xs.length + ys.length) (xs.length + ys.length)) os') ∧
          Hid (Box3 w (.bool s) (.slice (some ⟨b1, off1, none⟩) xs.length c) (.bool t) (.slice B ys.length d) (.bool false) (.slice none 0 0) wr)) (fun _ i _ => ys.length - (intOf i).toNat)
        case atStart => exact ⟨0, 0, os, Nat.zero_le _, rfl, rfl, by omega, by omega, Lib.hid rfl, HOW, HBX⟩
        case round =>
          obtain ⟨j, q, os', hj, rfl, rfl, q0, q1, HP, HOW2, HBX2⟩ := hrel
          have HOS2 := Lib.hid HOS.out
          have hlen : os'.length = xs.length + ys.length := by
            have h1 := mulIn_len (rdI xs k) ys os k j
            rw [HP.out, HOS.out, mulOut_len] at h1
            exact h1
          have HL := Lib.hid hlen
          clear HBX HOW
          obtain ⟨c0, c1, d0, d1, e0, e1, f0, f1, g0, g1, i0, i1, HE⟩ := HBX2.out
          by_cases hjl : j < ys.length
          · obtain ⟨b2, off2, rfl, _, y1, _⟩ := ints_at RB.out hjl
            replace y1 := HE.out.cell y1 (fun h => h)
            obtain ⟨b0, b1'⟩ := DY.out j hjl
            obtain ⟨p0, p1⟩ := prod_dig ⟨a0, a1⟩ ⟨b0, b1'⟩
            have hdig : 0 ≤ rdI os' (k + j) ∧ rdI os' (k + j) < 1000000000 := by
              have h1 := mulIn_dig (i := k) (m := xs.length - k - 1) ⟨a0, a1⟩ DY.out (mulOut_dig DX.out DY.out k hk) (by rw [mulOut_len]; omega) j hj
              rw [← HOS.out, HP.out] at h1
              exact h1.1 (k + j) (show k + j < os'.length by omega)
            obtain ⟨o0, o1⟩ := hdig
            obtain ⟨oc, -⟩ := HOW2.out.int_at (k := k + j) (by omega)
            have of := HOW2.out.frozenAt (k + j)
            have HST := Lib.hid (mulIn_step HP.out rfl)
            clear hlen
            go_wp2_with fail
            have s1 := HOW2.out.set1 rfl (j := k + j) (x := (q + (rdI os' (k + j) + rdI xs k * rdI ys j)) % 1000000000) (u := .int .u32 ((q + (rdI os' (k + j) + rdI xs k * rdI ys j)) % 1000000000)) (by have := HL.out; omega) ⟨rfl, wf_u (by omega) (by omega)⟩
            exact ⟨⟨j + 1, _, _, by omega, by go_num, rfl, by omega, by omega, HST, Lib.hid s1.1, Lib.hid (HBX2.out.hi hsz s1.2)⟩, by simp [intOf]; omega⟩
          · have hjn : j = ys.length := by omega
            subst hjn
            have of := HOW2.out.frozenAt (k + ys.length)
            obtain ⟨oc, -⟩ := HOW2.out.int_at (k := k + ys.length) (by omega)
            have HST := Lib.hid (mulOut_step HOS.out HP.out)
            clear hlen
            go_wp2_with fail
            have s1 := HOW2.out.set1 rfl (j := k + ys.length) (x := q) (u := .int .u32 q) (by have := HL.out; omega) ⟨rfl, wf_u (by omega) (by omega)⟩
            exact ⟨⟨k + 1, _, by omega, by go_num, Lib.hid HST.out.symm, Lib.hid s1.1, Lib.hid (HBX2.out.hi hsz s1.2)⟩, by simp [intOf]; omega⟩
      · have hkn : k = xs.length := by omega
        subst hkn
        have HZ := Lib.hid (show os = mulOut xs ys xs.length from HOS.out)
        have hsz2 := HBX.out.size
        have HSL := Lib.hid (HOW.out.slice (pos := Nat.one_pos) (fun b hb => hb.elim (fun hb => by have := HO.out b hb; omega) (fun e => by omega)))
        have hlen : os.length = xs.length + ys.length := by rw [HZ.out, mulOut_len]
        go_wp2_with fail
        refine (c_signed _ _ os _ (Plus O (w.heap.size + 1 + 1)) HSL.out).mono ?_
        rintro e w4 ⟨v4, rfl, hz4, hq4⟩
        obtain ⟨A4, c4, rfl⟩ := z_form hz4
        have HZ4 := Lib.hid hz4
        have H5 := Lib.hid (HBX.out.ext hq4)
        obtain ⟨r0, r1, r2, r3⟩ := H5.out.res
        clear hz4 hq4 c0 c1 d0 d1 e0 e1 f0 f1 g0 g1 i0 i1 HE
        go_wp2_with fail
        refine bodyPost_ret (v := .agg #[.bool (signZ (!(s == t)) os).neg, .slice A4 (signZ (!(s == t)) os).digs.length c4]) (by simp [results, Tryz.results67, go_sem, r0, r1, r2, r3]) rfl ⟨_, rfl, ?_, (H5.out.ofExt.setNew (show w.heap.size ≤ w.heap.size + 1 + 1 by omega) _).setNew (show w.heap.size ≤ w.heap.size + 1 + 1 by omega) _⟩
        have hz : mulZ ⟨s, xs⟩ ⟨t, ys⟩ = signZ (!(s == t)) os := by rw [HZ.out]; rfl
        rw [hz]
        exact kZ.aggMinus HZ4.out (Ext.set2 _ _ _ _ _)
theorem bin_Mul : Bin 67 mulZ OkZ := fun va vb x y W O ha hb hO h => c_Mul va vb x y W O ha hb hO h.1 h.2.1 h.2.2.1 h.2.2.2
end
end Go.Proofs.YtfpmapbimhdafaaGreatDoor

namespace Go.Proofs.YtfpmapbimhdafaaGreatDoor
open Go.RowKit
set_option linter.unusedVariables false
set_option linter.unusedSimpArgs false

/-- The k-th byte of a string. -/
def chI (s : ByteArray) (k : Nat) : Int := if h : k < s.size then ((s[k]'h).toNat : Int) else 0
theorem chI_eq {s : ByteArray} {k : Nat} (h : k < s.size) : ((s[k]'h).toNat : Int) = chI s k := by rw [chI, dif_pos h]
/-- Digits alone, and some. -/
def NumOk (s : ByteArray) : Prop := 0 < s.size ∧ s.size ≤ 10000 ∧ ∀ k, k < s.size → 48 ≤ chI s k ∧ chI s k ≤ 57
def chunkV (s : ByteArray) (lo : Nat) : Nat → Int
  | 0 => 0
  | n + 1 => chunkV s lo n * 10 + (chI s (lo + n) - 48)
def parseTo (s : ByteArray) : Nat → List Int
  | 0 => []
  | k + 1 => parseTo s k ++ [chunkV s (s.size - 9 * (k + 1)) (s.size - 9 * k - (s.size - 9 * (k + 1)))]
def parseZ (s : ByteArray) : ZInt := signZ false (parseTo s ((s.size + 8) / 9))
theorem parseTo_len (s : ByteArray) : ∀ k, (parseTo s k).length = k
  | 0 => rfl
  | k + 1 => by rw [parseTo, List.length_append, parseTo_len s k]; rfl
theorem chunkV_lt {s : ByteArray} (h : NumOk s) {lo : Nat} : ∀ n, lo + n ≤ s.size → 0 ≤ chunkV s lo n ∧ chunkV s lo n < 10 ^ n
  | 0, _ => by simp [chunkV]
  | n + 1, hn => by
    have h1 := chunkV_lt h (lo := lo) n (by omega)
    have h2 := h.2.2 (lo + n) (by omega)
    rw [chunkV, Int.pow_succ]
    omega
theorem chunkV_nine {s : ByteArray} (h : NumOk s) {lo n : Nat} (hn : lo + n ≤ s.size) (h9 : n ≤ 9) : 0 ≤ chunkV s lo n ∧ chunkV s lo n < 1000000000 := by
  have h1 := chunkV_lt h n hn
  have h2 : (10 : Int) ^ n ≤ 10 ^ 9 := by exact_mod_cast Nat.pow_le_pow_right (by omega) h9
  have h3 : (10 : Int) ^ 9 = 1000000000 := by decide
  omega
theorem chunkV_eight {s : ByteArray} (h : NumOk s) {lo n : Nat} (hn : lo + n ≤ s.size) (h9 : n ≤ 8) : 0 ≤ chunkV s lo n ∧ chunkV s lo n < 100000000 := by
  have h1 := chunkV_lt h n hn
  have h2 : (10 : Int) ^ n ≤ 10 ^ 8 := by exact_mod_cast Nat.pow_le_pow_right (by omega) h9
  have h3 : (10 : Int) ^ 8 = 100000000 := by decide
  omega
theorem parseTo_dig {s : ByteArray} (h : NumOk s) : ∀ k, 9 * k ≤ s.size + 8 → DigR (parseTo s k)
  | 0, _ => by intro i hi; simp [parseTo] at hi
  | k + 1, hk => by
    have ih := parseTo_dig h k (by omega)
    have hc := chunkV_nine h (lo := s.size - 9 * (k + 1)) (n := s.size - 9 * k - (s.size - 9 * (k + 1))) (by omega) (by omega)
    intro i hi
    rw [parseTo, List.length_append, parseTo_len] at hi
    simp only [List.length_cons, List.length_nil] at hi
    rcases Nat.lt_or_ge i k with hlt | hge
    · have h1 := ih i (by rw [parseTo_len]; exact hlt)
      rw [parseTo]
      simpa [rdI, List.getD_eq_getElem?_getD, List.getElem?_append_left (show i < (parseTo s k).length by rw [parseTo_len]; exact hlt)] using h1
    · have hik : i = (parseTo s k).length := by rw [parseTo_len]; omega
      rw [parseTo, hik]
      simpa [rdI, List.getD_eq_getElem?_getD] using hc
theorem parseZ_right {s : ByteArray} (h : NumOk s) : zRight (parseZ s) = true := signZ_right (parseTo_dig h _ (by omega))
theorem parseZ_len {s : ByteArray} : (parseZ s).digs.length ≤ (s.size + 8) / 9 := by
  have := signZ_len (neg := false) (xs := parseTo s ((s.size + 8) / 9))
  rw [parseTo_len] at this
  exact this

section
attribute [local go_sem] setCell_same
set_option maxRecDepth 100000 in
set_option maxHeartbeats 2000000 in
theorem c_Parse (s : ByteArray) (w : World) (O : Nat → Prop) (hO : OldO O w) (hs : NumOk s) :
    Calls Tryz.prog 63 #[.string s] w fun e w' => ∃ v, e = .returned (.tuple #[v, .bool true]) ∧ kZ.agg w' O (parseZ s) v ∧ Ext NoB w w' := by
  have h0 := hs.1
  have h1 := hs.2.1
  have HS := Lib.hid hs
  have HO := Lib.hid hO
  have hd := hs.2.2 0 h0
  rw [← chI_eq h0] at hd
  obtain ⟨hd0, hd1⟩ := hd
  have hne : ((s.size : Int) == 0) = false := by rw [beq_eq_false_iff_ne]; omega
  have h45 : (((s[0]'h0).toNat : Int) == 45) = false := by rw [beq_eq_false_iff_ne]; omega
  have hgt : decide (10000 < (s.size : Int)) = false := by rw [decide_eq_false_iff_not]; omega
  clear hs hO
  go_enter Tryz.func63, Tryz.ntmps63
  go_wp2_with fail
  go_loopw [32] (fun i wr => ∃ (k : Nat), k ≤ s.size ∧ i = .int .i64 k ∧ wr = w.alloc (Obj.cells #[Value.bool false, Value.slice none 0 0] 50)) (fun i _ => s.size - (intOf i).toNat)
  case atStart => exact ⟨0, Nat.zero_le _, rfl, rfl⟩
  case round =>
    obtain ⟨k, hk, rfl, rfl⟩ := hrel
    by_cases hlt : k < s.size
    · have hd := HS.out.2.2 k hlt
      rw [← chI_eq hlt] at hd
      obtain ⟨q0, q1⟩ := hd
      have q2 : decide ((((s[k]'hlt).toNat : Nat) : Int) < 48) = false := by rw [decide_eq_false_iff_not]; omega
      have q3 : decide (57 < (((s[k]'hlt).toNat : Nat) : Int)) = false := by rw [decide_eq_false_iff_not]; omega
      go_wp2_with fail
      exact ⟨⟨k + 1, by omega, by go_num, trivial⟩, by simp [intOf]; omega⟩
    · go_wp2_with fail
      go_loopw [6, 7] (fun v i wr => ∃ (E : Int) (k : Nat) (os : List Int), E = (s.size : Int) - 9 * k ∧ 9 * k ≤ s.size + 8 ∧ i = .int .i64 E ∧ Hid (os = parseTo s k) ∧ Own wr (w.heap.size + 1) 101 kU (Plus O w.heap.size) v os ∧ Hid (Ext NoB w wr) ∧
        wr.cell? ⟨w.heap.size, 0, none⟩ = some (.bool false) ∧ wr.cell? ⟨w.heap.size, 1, none⟩ = some (.slice none 0 0) ∧ wr.frozen? ⟨w.heap.size, 0, none⟩ = false ∧ wr.frozen? ⟨w.heap.size, 1, none⟩ = false) (fun _ i _ => (intOf i).toNat)
      case atStart => exact ⟨(s.size : Int), 0, [], by omega, by omega, rfl, Lib.hid rfl, Own.nil _ _ _ _, Lib.hid ((Ext.refl _ _).alloc _), by go_simp, by go_simp, by go_simp, by go_simp⟩
      case round =>
        obtain ⟨E, k, os, hE, hk9, rfl, HOS, hown, HX, c0, c1, f0, f1⟩ := hrel
        have hsz : w.heap.size + 1 ≤ wr.heap.size := cell_lt c0
        rcases Int.lt_or_le 0 E with hpos | hneg
        · obtain ⟨hi, hhi⟩ : ∃ hi : Nat, E = (hi : Int) := ⟨E.toNat, by omega⟩
          obtain ⟨lo, hlo⟩ : ∃ lo : Nat, lo = hi - 9 := ⟨_, rfl⟩
          have HCH := Lib.hid (show parseTo s (k + 1) = os ++ [chunkV s lo (hi - lo)] by
            rw [parseTo, ← HOS.out, show s.size - 9 * (k + 1) = lo by omega, show s.size - 9 * k = hi by omega])
          subst hhi
          have hE9 : hi + 9 * k = s.size := by omega
          have hp9 : 0 < hi := by omega
          clear hE
          have hmax : (9 ≤ hi ∧ hi = lo + 9) ∨ (hi < 9 ∧ lo = 0) := by omega
          rcases hmax with ⟨h9, hh⟩ | ⟨h9, hh⟩
          · replace hh := hh.symm
            have HCH := Lib.hid (show parseTo s (k + 1) = os ++ [chunkV s lo 9] by rw [HCH.out, show hi - lo = 9 by omega])
            clear hlo
            go_wp2_with fail
            go_loopw [8, 9] (fun dg i wr' => ∃ (n : Nat), n ≤ 9 ∧ i = .int .i64 ((lo + n : Nat) : Int) ∧ dg = .int .u32 (chunkV s lo n) ∧ wr' = wr) (fun _ i _ => hi - (intOf i).toNat)
            case atStart => exact ⟨0, Nat.zero_le _, by first | simp; done | (simp; omega), rfl, rfl⟩
            case round =>
              obtain ⟨n, hn, rfl, rfl, rfl⟩ := hrel
              have hn1 : lo + n ≤ s.size := by omega
              obtain ⟨v0, v1⟩ := chunkV_nine HS.out (lo := lo) (n := n) hn1 (by omega)
              by_cases hlt : n < 9
              · obtain ⟨v2, v3⟩ := chunkV_eight HS.out (lo := lo) (n := n) hn1 (by omega)
                have hlt2 : lo + n < s.size := by omega
                have hd := HS.out.2.2 (lo + n) hlt2
                have hce := chI_eq hlt2
                rw [← hce] at hd
                obtain ⟨q0, q1⟩ := hd
                have HCE := Lib.hid hce
                clear hce
                go_wp2_with fail
                refine ⟨⟨n + 1, by omega, ?_, ?_, trivial⟩, by simp [intOf]; omega⟩
                · first | rfl | (congr 1; push_cast; omega)
                · have hce := HCE.out
                  rw [chunkV]
                  try simp only [Nat.zero_add] at hce ⊢
                  congr 1
                  omega
              · have hne : 9 = n := by omega
                subst hne
                go_wp2_with (at_builtin; refine wpl_append1 kU Nat.one_pos rfl (.tmp 69) (.tmp 71) 48 rfl (w.heap.size + 1) 101 _ 4 Tryz.underlying48 info_u32 rfl (Plus O w.heap.size) _ rfl os hown rfl (chunkV s lo 9) [_] ⟨rfl, wf_u (by omega) (by omega)⟩ (old_plus HO.out HX.out hsz) (by omega) (by have h := congrArg List.length HOS.out; rw [parseTo_len] at h; omega) hsz ?_; intro v2 w2 hO2 hE2 hat2)
                have HX2 := Lib.hid (HX.out.then hE2 (fun i hi h => by have := (hown.base h).1; omega))
                have c0' := hE2.cell c0 (fun h => by have := (hown.base h).1; simp only at this; omega)
                have c1' := hE2.cell c1 (fun h => by have := (hown.base h).1; simp only at this; omega)
                have f0' := (hE2.frozen (cell_lt c0) (fun h => by have := (hown.base h).1; simp only at this; omega)).trans f0
                have f1' := (hE2.frozen (cell_lt c1) (fun h => by have := (hown.base h).1; simp only at this; omega)).trans f1
                clear hE2 hat2
                refine ⟨⟨_, k + 1, _, ?_, by omega, rfl, Lib.hid HCH.out.symm, hO2, HX2, c0', c1', f0', f1'⟩, ?_⟩
                · omega
                · simp [intOf]; omega
          · subst hh
            have HCH := Lib.hid (show parseTo s (k + 1) = os ++ [chunkV s 0 hi] by rw [HCH.out, Nat.sub_zero])
            clear hlo
            go_wp2_with fail
            go_loopw [8, 9] (fun dg i wr' => ∃ (n : Nat), n ≤ hi ∧ i = .int .i64 ((n : Nat) : Int) ∧ dg = .int .u32 (chunkV s 0 n) ∧ wr' = wr) (fun _ i _ => hi - (intOf i).toNat)
            case atStart => exact ⟨0, Nat.zero_le _, by first | simp; done | (simp; omega), rfl, rfl⟩
            case round =>
              obtain ⟨n, hn, rfl, rfl, rfl⟩ := hrel
              have hn1 : n ≤ s.size := by omega
              obtain ⟨v0, v1⟩ := chunkV_nine HS.out (lo := 0) (n := n) (by omega) (by omega)
              by_cases hlt : n < hi
              · obtain ⟨v2, v3⟩ := chunkV_eight HS.out (lo := 0) (n := n) (by omega) (by omega)
                have hlt2 : n < s.size := by omega
                have hd := HS.out.2.2 (n) hlt2
                have hce := chI_eq hlt2
                rw [← hce] at hd
                obtain ⟨q0, q1⟩ := hd
                have HCE := Lib.hid hce
                clear hce
                go_wp2_with fail
                refine ⟨⟨n + 1, by omega, ?_, ?_, trivial⟩, by simp [intOf]; omega⟩
                · first | rfl | (congr 1; push_cast; omega)
                · have hce := HCE.out
                  rw [chunkV]
                  rw [Nat.zero_add]
                  try simp only [Nat.zero_add] at hce ⊢
                  congr 1
                  omega
              · have hne : hi = n := by omega
                subst hne
                go_wp2_with (at_builtin; refine wpl_append1 kU Nat.one_pos rfl (.tmp 69) (.tmp 71) 48 rfl (w.heap.size + 1) 101 _ 4 Tryz.underlying48 info_u32 rfl (Plus O w.heap.size) _ rfl os hown rfl (chunkV s 0 hi) [_] ⟨rfl, wf_u (by omega) (by omega)⟩ (old_plus HO.out HX.out hsz) (by omega) (by have h := congrArg List.length HOS.out; rw [parseTo_len] at h; omega) hsz ?_; intro v2 w2 hO2 hE2 hat2)
                have HX2 := Lib.hid (HX.out.then hE2 (fun i hi h => by have := (hown.base h).1; omega))
                have c0' := hE2.cell c0 (fun h => by have := (hown.base h).1; simp only at this; omega)
                have c1' := hE2.cell c1 (fun h => by have := (hown.base h).1; simp only at this; omega)
                have f0' := (hE2.frozen (cell_lt c0) (fun h => by have := (hown.base h).1; simp only at this; omega)).trans f0
                have f1' := (hE2.frozen (cell_lt c1) (fun h => by have := (hown.base h).1; simp only at this; omega)).trans f1
                clear hE2 hat2
                refine ⟨⟨_, k + 1, _, ?_, by omega, rfl, Lib.hid HCH.out.symm, hO2, HX2, c0', c1', f0', f1'⟩, ?_⟩
                · omega
                · simp [intOf]; omega
        · have hke : k = (s.size + 8) / 9 := by omega
          have HF := Lib.hid (show os = parseTo s ((s.size + 8) / 9) by rw [HOS.out, hke])
          obtain ⟨A, c, rfl, hl, hm⟩ := hown.shape
          have HV := Lib.hid (hown.slice (pos := Nat.one_pos) (fun b hb => hb.elim (fun hb => Nat.lt_succ_of_lt (HO.out b hb)) (fun e => by omega)))
          clear hown hl hm
          go_wp2_with fail
          refine (c_signed _ _ os _ (Plus O w.heap.size) HV.out).mono ?_
          rintro e w4 ⟨v4, rfl, hz4, hq4⟩
          obtain ⟨A4, c4, rfl⟩ := z_form hz4
          have HZ4 := Lib.hid hz4
          have HX4 := Lib.hid (HX.out.trans hq4)
          have r0 := hq4.cell c0 (fun h => h)
          have r1 := hq4.cell c1 (fun h => h)
          have g0 := (hq4.frozen (cell_lt c0) (fun h => h)).trans f0
          have g1 := (hq4.frozen (cell_lt c1) (fun h => h)).trans f1
          clear hz4 hq4 c0 c1 f0 f1
          go_wp2_with fail
          refine bodyPost_ret (v := .tuple #[.agg #[.bool (signZ false os).neg, .slice A4 (signZ false os).digs.length c4], .bool true]) (by simp [results, Tryz.results63, go_sem, r0, r1, g0, g1]) rfl ⟨_, rfl, ?_, (HX4.out.setNew (Nat.le_refl _) _).setNew (Nat.le_refl _) _⟩
          have hz : parseZ s = signZ false os := by rw [HF.out]; rfl
          rw [hz]
          exact kZ.aggMinus HZ4.out (Ext.set2 _ _ _ _ _)
end
end Go.Proofs.YtfpmapbimhdafaaGreatDoor

namespace Go.Proofs.YtfpmapbimhdafaaGreatDoor
open Go.RowKit
set_option linter.unusedVariables false
set_option linter.unusedSimpArgs false

theorem term_open {w : World} {O : Nat → Prop} {t : Term} {v : Value} (h : kTerm.agg w O t v) : ∃ A c, v = .agg #[.int .i64 t.op, .int .i64 t.fn, .slice A t.kids.length c, .string t.num] ∧ kInts.one w O t.kids (.slice A t.kids.length c) ∧ (Lit.int .i64 t.op).wf = true ∧ (Lit.int .i64 t.fn).wf = true ∧ t.num.size ≤ maxLen := by
  obtain ⟨cs, rfl, h⟩ := h
  obtain ⟨v, rfl, h1, h2, h3, h4⟩ := kTerm_iff.1 h
  have h3' := h3
  obtain ⟨A, c, rfl, _⟩ := Kd.one_slice h3'
  exact ⟨A, c, rfl, h3, h1, h2, h4⟩
theorem model_open {w : World} {O : Nat → Prop} {m : Model} {v : Value} (h : kModel.agg w O m v) : ∃ A c B d, v = .agg #[.slice A m.sizes.length c, .slice B m.funs.length d] ∧ kInts.one w O m.sizes (.slice A m.sizes.length c) ∧ kTables.one w O m.funs (.slice B m.funs.length d) := by
  obtain ⟨cs, rfl, h⟩ := h
  obtain ⟨v1, v2, rfl, h1, h2⟩ := kModel_iff.1 h
  have h1' := h1
  have h2' := h2
  obtain ⟨A, c, rfl, _⟩ := Kd.one_slice h1'
  obtain ⟨B, d, rfl, _⟩ := Kd.one_slice h2'
  exact ⟨A, c, B, d, rfl, h1, h2⟩
theorem row_table {w : World} {O : Nat → Prop} {b off : Nat} {xs : List Table} (h : kTable.row w O b off xs) {i : Nat} {x : Table} (hx : xs[i]? = some x) :
    ∃ A c B d, (w.cell? ⟨b, off + i * 3, none⟩ = some (.slice A x.rows.length c) ∧ w.cell? ⟨b, off + i * 3 + 1, none⟩ = some (.bool x.els.neg) ∧ w.cell? ⟨b, off + i * 3 + 2, none⟩ = some (.slice B x.els.digs.length d)) ∧
      kTable.agg w O x (.agg #[.slice A x.rows.length c, .bool x.els.neg, .slice B x.els.digs.length d]) := by
  obtain ⟨cs, hrep, hc⟩ := h i x hx
  have hrep' := hrep
  obtain ⟨v1, v2, rfl, h1, h2⟩ := kTable_iff.1 hrep
  have h1' := h1
  have h2' := h2
  obtain ⟨A, c, rfl, _⟩ := Kd.one_slice h1'
  obtain ⟨B, d, rfl, _⟩ := Kd.one_slice h2'
  exact ⟨A, c, B, d, ⟨hc 0 _ rfl, hc 1 _ rfl, hc 2 _ rfl⟩, ⟨_, rfl, hrep'⟩⟩

def foldZ (op : ZInt → ZInt → ZInt) : List ZInt → ZInt
  | [] => ⟨false, []⟩
  | x :: l => l.foldl op x
def FoldKids (op : ZInt → ZInt → ZInt) : List ZInt → Prop
  | [] => False
  | x :: l => FoldOk op OkZ x l
def atZ (xs : List ZInt) (k : Nat) : ZInt := xs.getD k ⟨false, []⟩
theorem atZ_eq {xs : List ZInt} {k : Nat} {x : ZInt} (h : xs[k]? = some x) : atZ xs k = x := by rw [atZ, List.getD_eq_getElem?_getD, h]; rfl
def tabAt (m : Model) (k : Int) : Table := m.funs.getD k.toNat ⟨[], ⟨false, []⟩⟩
theorem tabAt_eq {m : Model} {k : Nat} {x : Table} (h : m.funs[k]? = some x) : tabAt m (k : Int) = x := by rw [tabAt, Int.toNat_natCast, List.getD_eq_getElem?_getD, h]; rfl
/-- What a term is, by what its kids are. -/
def valueT (t : Term) (kids : List ZInt) (m : Model) : ZInt :=
  if t.op = 3 then lookT (tabAt m t.fn) kids else if t.op = 4 then parseZ t.num else if t.op = 10 then (if zYes (atZ kids 0) then atZ kids 1 else atZ kids 2)
  else if t.op = 17 then foldZ addZ kids else if t.op = 19 then foldZ mulZ kids else if t.op = 18 then (if kids.length = 1 then negZ (atZ kids 0) else foldZ subZ kids)
  else if truthT t.op kids then ofN 1 else ofN 0
def ValOk (t : Term) (kids : List ZInt) (m : Model) : Prop :=
  if t.op = 3 then 0 ≤ t.fn ∧ t.fn < m.funs.length ∧ RowsRight (tabAt m t.fn).rows else if t.op = 4 then NumOk t.num else if t.op = 10 then kids.length = 3
  else if t.op = 17 then FoldKids addZ kids else if t.op = 19 then FoldKids mulZ kids else if t.op = 18 then (if kids.length = 1 then (atZ kids 0).digs.length ≤ 100000000 else FoldKids subZ kids)
  else KidsOk t.op kids.length

section
attribute [local go_sem] setCell_same
set_option maxRecDepth 100000 in
set_option maxHeartbeats 2000000 in
theorem c_value3 (fn : Int) (tk : List Int) (num : ByteArray) (kids : List ZInt) (m : Model) (vt vk vm vh : Value) (w : World) (O : Nat → Prop) (ht : kTerm.agg w O ⟨3, fn, tk, num⟩ vt) (hk : kZs.one w O kids vk) (hm : kModel.agg w O m vm) (hh : How w O vh) (hO : OldO O w) (hr : AllRight kids) (h0 : 0 ≤ fn) (h1 : fn < m.funs.length) (hrr : RowsRight (tabAt m fn).rows) :
    Calls Tryz.prog 34 #[vt, vk, vm, vh] w fun e w' => ∃ v, e = .returned v ∧ kZ.agg w' O (lookT (tabAt m fn) kids) v ∧ Ext NoB w w' := by
  obtain ⟨A, c, rfl, ha, wo, wf, wn⟩ := term_open ht
  obtain ⟨S, s, B, d, rfl, hs, hb⟩ := model_open hm
  have HA := Lib.hid ha
  have HB := Lib.hid hb
  have HK := Lib.hid hk
  have HH := Lib.hid hh
  have HO := Lib.hid hO
  have HR := Lib.hid hr
  clear ht hm ha hs hh hO hr wo wf wn
  simp only
  obtain ⟨k, rfl⟩ : ∃ k : Nat, fn = (k : Int) := ⟨fn.toNat, by omega⟩
  have hkl : k < m.funs.length := by omega
  obtain ⟨tb, htb⟩ := at_some hkl
  obtain ⟨_, _, hv, _, hm9, hrow⟩ := Kd.one_slice hb
  obtain ⟨b, off, hB, hnb, hrow2⟩ := hrow (ne_nil_of_lt hkl)
  injection hv with hv1 hv2 hv3
  subst hv1 hv3
  subst hB
  obtain ⟨A1, c1, B1, d1, ⟨x0, x1, x2⟩, htab⟩ := row_table hrow2 htb
  rw [tabAt_eq htb] at hrr ⊢
  have hE3 := (((Ext.refl NoB w).alloc (Obj.cells #[.int .i64 3, .int .i64 (k : Int), .slice A tk.length c, .string num] 63)).alloc (Obj.cells #[.slice S m.sizes.length s, .slice (some ⟨b, off, none⟩) m.funs.length d] 31)).alloc (Obj.cells #[.bool false, .slice none 0 0] 50)
  have y0 := hE3.cell x0 (fun h => h)
  have y1 := hE3.cell x1 (fun h => h)
  have y2 := hE3.cell x2 (fun h => h)
  clear x0 x1 x2 hE3
  have HT := Lib.hid htab
  have HRR := Lib.hid hrr
  have h1' : m.funs.length ≤ 9223372036854775807 := by unfold maxLen at hm9; omega
  clear hrow hrow2 htab htb hrr hnb hm9 hv2
  go_enter Tryz.func34, Tryz.ntmps34
  go_wp2_with fail
  refine (c_look _ _ tb kids _ (Plus O (w.heap.size + 1 + 1)) (kTable.aggPlus HT.out ((((Ext.refl _ _).alloc _).alloc _).alloc _) (by omega)) (kZs.onePlus HK.out ((((Ext.refl _ _).alloc _).alloc _).alloc _) (by omega)) HRR.out HR.out ?_).mono ?_
  · rintro b (hb | rfl)
    · have := HO.out b hb
      simp; omega
    · simp
  rintro e w4 ⟨v4, rfl, hz4, hq4⟩
  obtain ⟨A4, c4, rfl⟩ := z_form hz4
  have HZ4 := Lib.hid hz4
  have r0 : w4.cell? ⟨w.heap.size + 1 + 1, 0, none⟩ = some (.bool false) := hq4.cell (by go_simp) (fun h => h)
  have r1 : w4.cell? ⟨w.heap.size + 1 + 1, 1, none⟩ = some (.slice none 0 0) := hq4.cell (by go_simp) (fun h => h)
  have g0 : w4.frozen? ⟨w.heap.size + 1 + 1, 0, none⟩ = false := (hq4.frozen (by simp) (fun h => h)).trans (by go_simp)
  have g1 : w4.frozen? ⟨w.heap.size + 1 + 1, 1, none⟩ = false := (hq4.frozen (by simp) (fun h => h)).trans (by go_simp)
  have HE := Lib.hid (Ext.trans (((((Ext.refl NoB w).alloc _).alloc _).alloc _)) hq4)
  clear hz4 hq4
  go_wp2_with fail
  refine bodyPost_ret (v := .agg #[.bool (lookT tb kids).neg, .slice A4 (lookT tb kids).digs.length c4]) (by simp [results, Tryz.results34, go_sem, r0, r1, g0, g1]) rfl ⟨_, rfl, ?_, (HE.out.setNew (show w.heap.size ≤ w.heap.size + 1 + 1 by omega) _).setNew (show w.heap.size ≤ w.heap.size + 1 + 1 by omega) _⟩
  exact kZ.aggMinus HZ4.out (Ext.set2 _ _ _ _ _)
set_option maxRecDepth 100000 in
set_option maxHeartbeats 2000000 in
theorem c_value4 (fn : Int) (tk : List Int) (num : ByteArray) (kids : List ZInt) (m : Model) (vt vk vm vh : Value) (w : World) (O : Nat → Prop) (ht : kTerm.agg w O ⟨4, fn, tk, num⟩ vt) (hk : kZs.one w O kids vk) (hm : kModel.agg w O m vm) (hh : How w O vh) (hO : OldO O w) (hr : AllRight kids) (hnum : NumOk num) :
    Calls Tryz.prog 34 #[vt, vk, vm, vh] w fun e w' => ∃ v, e = .returned v ∧ kZ.agg w' O (parseZ num) v ∧ Ext NoB w w' := by
  obtain ⟨A, c, rfl, ha, wo, wf, wn⟩ := term_open ht
  obtain ⟨S, s, B, d, rfl, hs, hb⟩ := model_open hm
  have HA := Lib.hid ha
  have HB := Lib.hid hb
  have HK := Lib.hid hk
  have HH := Lib.hid hh
  have HO := Lib.hid hO
  have HR := Lib.hid hr
  clear ht hm ha hs hh hO hr wo wf wn
  simp only
  have HN := Lib.hid hnum
  clear hnum hb
  go_enter Tryz.func34, Tryz.ntmps34
  go_wp2_with fail
  refine (c_Parse num _ (Plus O (w.heap.size + 1 + 1)) ?_ HN.out).mono ?_
  · rintro b (hb | rfl)
    · have := HO.out b hb
      simp; omega
    · simp
  rintro e w4 ⟨v4, rfl, hz4, hq4⟩
  obtain ⟨A4, c4, rfl⟩ := z_form hz4
  have HZ4 := Lib.hid hz4
  have r0 : w4.cell? ⟨w.heap.size + 1 + 1, 0, none⟩ = some (.bool false) := hq4.cell (by go_simp) (fun h => h)
  have r1 : w4.cell? ⟨w.heap.size + 1 + 1, 1, none⟩ = some (.slice none 0 0) := hq4.cell (by go_simp) (fun h => h)
  have g0 : w4.frozen? ⟨w.heap.size + 1 + 1, 0, none⟩ = false := (hq4.frozen (by simp) (fun h => h)).trans (by go_simp)
  have g1 : w4.frozen? ⟨w.heap.size + 1 + 1, 1, none⟩ = false := (hq4.frozen (by simp) (fun h => h)).trans (by go_simp)
  have l0 := cell_lt r0
  have HE := Lib.hid (Ext.trans (((((Ext.refl NoB w).alloc _).alloc _).alloc _)) hq4)
  clear hz4 hq4
  go_wp2_with fail
  refine bodyPost_ret (v := .agg #[.bool (parseZ num).neg, .slice A4 (parseZ num).digs.length c4]) (by simp [results, Tryz.results34, go_sem, r0, r1, g0, g1, l0]) rfl ⟨_, rfl, ?_, ((HE.out.setNew (show w.heap.size ≤ w.heap.size + 1 + 1 by omega) _).setNew (show w.heap.size ≤ w.heap.size + 1 + 1 by omega) _).alloc _⟩
  exact kZ.aggMinus HZ4.out ((Ext.set2 _ _ _ _ _).alloc _)
set_option maxRecDepth 100000 in
set_option maxHeartbeats 2000000 in
theorem c_value17 (fn : Int) (tk : List Int) (num : ByteArray) (kids : List ZInt) (m : Model) (vt vk vm vh : Value) (w : World) (O : Nat → Prop) (ht : kTerm.agg w O ⟨17, fn, tk, num⟩ vt) (hk : kZs.one w O kids vk) (hm : kModel.agg w O m vm) (hh : How w O vh) (hO : OldO O w) (hr : AllRight kids) (hf : FoldKids addZ kids) :
    Calls Tryz.prog 34 #[vt, vk, vm, vh] w fun e w' => ∃ v, e = .returned v ∧ kZ.agg w' O (foldZ addZ kids) v ∧ Ext NoB w w' := by
  obtain ⟨A, c, rfl, ha, wo, wf, wn⟩ := term_open ht
  obtain ⟨S, s, B, d, rfl, hs, hb⟩ := model_open hm
  have HA := Lib.hid ha
  have HB := Lib.hid hb
  have HK := Lib.hid hk
  have HH := Lib.hid hh
  have HO := Lib.hid hO
  have HR := Lib.hid hr
  clear ht hm ha hs hh hO hr wo wf wn
  simp only
  obtain ⟨x, l, rfl⟩ : ∃ x l, kids = x :: l := by
    cases kids with
    | nil => exact hf.elim
    | cons x l => exact ⟨x, l, rfl⟩
  have HF := Lib.hid hf
  clear hf hb
  obtain ⟨K, kc, rfl, hkl, hkm, hkr⟩ := Kd.one_slice hk
  have hkl1 : l.length + 1 ≤ 9223372036854775807 := by unfold maxLen at hkm; simp only [List.length_cons] at hkl; omega
  clear hk hkl hkm hkr
  rw [List.length_cons] at HK ⊢
  go_enter Tryz.func34, Tryz.ntmps34
  go_wp2_with fail
  refine (c_fold _ x l 66 addZ OkZ bin_Add enter_Add _ (Plus O (w.heap.size + 1 + 1)) (kZs.onePlus HK.out ((((Ext.refl _ _).alloc _).alloc _).alloc _) (by omega)) ?_ HF.out).mono ?_
  · rintro b (hb | rfl)
    · have := HO.out b hb
      simp; omega
    · simp
  rintro e w4 ⟨v4, rfl, hz4, hq4⟩
  obtain ⟨A4, c4, rfl⟩ := z_form hz4
  have HZ4 := Lib.hid hz4
  have r0 : w4.cell? ⟨w.heap.size + 1 + 1, 0, none⟩ = some (.bool false) := hq4.cell (by go_simp) (fun h => h)
  have r1 : w4.cell? ⟨w.heap.size + 1 + 1, 1, none⟩ = some (.slice none 0 0) := hq4.cell (by go_simp) (fun h => h)
  have g0 : w4.frozen? ⟨w.heap.size + 1 + 1, 0, none⟩ = false := (hq4.frozen (by simp) (fun h => h)).trans (by go_simp)
  have g1 : w4.frozen? ⟨w.heap.size + 1 + 1, 1, none⟩ = false := (hq4.frozen (by simp) (fun h => h)).trans (by go_simp)
  have HE := Lib.hid (Ext.trans (((((Ext.refl NoB w).alloc _).alloc _).alloc _)) hq4)
  clear hz4 hq4
  go_wp2_with fail
  refine bodyPost_ret (v := .agg #[.bool ((l.foldl addZ x)).neg, .slice A4 ((l.foldl addZ x)).digs.length c4]) (by simp [results, Tryz.results34, go_sem, r0, r1, g0, g1]) rfl ⟨_, rfl, ?_, (HE.out.setNew (show w.heap.size ≤ w.heap.size + 1 + 1 by omega) _).setNew (show w.heap.size ≤ w.heap.size + 1 + 1 by omega) _⟩
  exact kZ.aggMinus HZ4.out (Ext.set2 _ _ _ _ _)
set_option maxRecDepth 100000 in
set_option maxHeartbeats 2000000 in
theorem c_value19 (fn : Int) (tk : List Int) (num : ByteArray) (kids : List ZInt) (m : Model) (vt vk vm vh : Value) (w : World) (O : Nat → Prop) (ht : kTerm.agg w O ⟨19, fn, tk, num⟩ vt) (hk : kZs.one w O kids vk) (hm : kModel.agg w O m vm) (hh : How w O vh) (hO : OldO O w) (hr : AllRight kids) (hf : FoldKids mulZ kids) :
    Calls Tryz.prog 34 #[vt, vk, vm, vh] w fun e w' => ∃ v, e = .returned v ∧ kZ.agg w' O (foldZ mulZ kids) v ∧ Ext NoB w w' := by
  obtain ⟨A, c, rfl, ha, wo, wf, wn⟩ := term_open ht
  obtain ⟨S, s, B, d, rfl, hs, hb⟩ := model_open hm
  have HA := Lib.hid ha
  have HB := Lib.hid hb
  have HK := Lib.hid hk
  have HH := Lib.hid hh
  have HO := Lib.hid hO
  have HR := Lib.hid hr
  clear ht hm ha hs hh hO hr wo wf wn
  simp only
  obtain ⟨x, l, rfl⟩ : ∃ x l, kids = x :: l := by
    cases kids with
    | nil => exact hf.elim
    | cons x l => exact ⟨x, l, rfl⟩
  have HF := Lib.hid hf
  clear hf hb
  obtain ⟨K, kc, rfl, hkl, hkm, hkr⟩ := Kd.one_slice hk
  have hkl1 : l.length + 1 ≤ 9223372036854775807 := by unfold maxLen at hkm; simp only [List.length_cons] at hkl; omega
  clear hk hkl hkm hkr
  rw [List.length_cons] at HK ⊢
  go_enter Tryz.func34, Tryz.ntmps34
  go_wp2_with fail
  refine (c_fold _ x l 67 mulZ OkZ bin_Mul enter_Mul _ (Plus O (w.heap.size + 1 + 1)) (kZs.onePlus HK.out ((((Ext.refl _ _).alloc _).alloc _).alloc _) (by omega)) ?_ HF.out).mono ?_
  · rintro b (hb | rfl)
    · have := HO.out b hb
      simp; omega
    · simp
  rintro e w4 ⟨v4, rfl, hz4, hq4⟩
  obtain ⟨A4, c4, rfl⟩ := z_form hz4
  have HZ4 := Lib.hid hz4
  have r0 : w4.cell? ⟨w.heap.size + 1 + 1, 0, none⟩ = some (.bool false) := hq4.cell (by go_simp) (fun h => h)
  have r1 : w4.cell? ⟨w.heap.size + 1 + 1, 1, none⟩ = some (.slice none 0 0) := hq4.cell (by go_simp) (fun h => h)
  have g0 : w4.frozen? ⟨w.heap.size + 1 + 1, 0, none⟩ = false := (hq4.frozen (by simp) (fun h => h)).trans (by go_simp)
  have g1 : w4.frozen? ⟨w.heap.size + 1 + 1, 1, none⟩ = false := (hq4.frozen (by simp) (fun h => h)).trans (by go_simp)
  have HE := Lib.hid (Ext.trans (((((Ext.refl NoB w).alloc _).alloc _).alloc _)) hq4)
  clear hz4 hq4
  go_wp2_with fail
  refine bodyPost_ret (v := .agg #[.bool ((l.foldl mulZ x)).neg, .slice A4 ((l.foldl mulZ x)).digs.length c4]) (by simp [results, Tryz.results34, go_sem, r0, r1, g0, g1]) rfl ⟨_, rfl, ?_, (HE.out.setNew (show w.heap.size ≤ w.heap.size + 1 + 1 by omega) _).setNew (show w.heap.size ≤ w.heap.size + 1 + 1 by omega) _⟩
  exact kZ.aggMinus HZ4.out (Ext.set2 _ _ _ _ _)
set_option maxRecDepth 100000 in
set_option maxHeartbeats 2000000 in
theorem c_value10 (fn : Int) (tk : List Int) (num : ByteArray) (kids : List ZInt) (m : Model) (vt vk vm vh : Value) (w : World) (O : Nat → Prop) (ht : kTerm.agg w O ⟨10, fn, tk, num⟩ vt) (hk : kZs.one w O kids vk) (hm : kModel.agg w O m vm) (hh : How w O vh) (hO : OldO O w) (hr : AllRight kids) (hl3 : kids.length = 3) (R : ZInt) (hR : R = if zYes (atZ kids 0) then atZ kids 1 else atZ kids 2) :
    Calls Tryz.prog 34 #[vt, vk, vm, vh] w fun e w' => ∃ v, e = .returned v ∧ kZ.agg w' O (R) v ∧ Ext NoB w w' := by
  obtain ⟨A, c, rfl, ha, wo, wf, wn⟩ := term_open ht
  obtain ⟨S, s, B, d, rfl, hs, hb⟩ := model_open hm
  have HA := Lib.hid ha
  have HB := Lib.hid hb
  have HK := Lib.hid hk
  have HH := Lib.hid hh
  have HO := Lib.hid hO
  have HR := Lib.hid hr
  clear ht hm ha hs hh hO hr wo wf wn
  simp only
  obtain ⟨x0, x1, x2, rfl⟩ : ∃ x y z, kids = [x, y, z] := by
    match kids, hl3 with
    | [x, y, z], _ => exact ⟨x, y, z, rfl⟩
  have HRR := Lib.hid hR
  clear hR
  obtain ⟨K, kc, rfl, hkl, hkm, hkr⟩ := Kd.one_slice hk
  obtain ⟨b, off, rfl, hnb, hkr2⟩ := hkr (by simp)
  have hE3 := (((Ext.refl NoB w).alloc (Obj.cells #[.int .i64 10, .int .i64 fn, .slice A tk.length c, .string num] 63)).alloc (Obj.cells #[.slice S m.sizes.length s, .slice B m.funs.length d] 31)).alloc (Obj.cells #[.bool false, .slice none 0 0] 50)
  obtain ⟨A0, a0, ⟨x00, x01⟩, hv0⟩ := row_z hkr2 (i := 0) rfl
  obtain ⟨A1, a1, ⟨x10, x11⟩, hv1⟩ := row_z hkr2 (i := 1) rfl
  obtain ⟨A2, a2, ⟨x20, x21⟩, hv2⟩ := row_z hkr2 (i := 2) rfl
  replace x00 := hE3.cell x00 (fun h => h)
  replace x01 := hE3.cell x01 (fun h => h)
  replace x10 := hE3.cell x10 (fun h => h)
  replace x11 := hE3.cell x11 (fun h => h)
  replace x20 := hE3.cell x20 (fun h => h)
  replace x21 := hE3.cell x21 (fun h => h)
  rw [Nat.zero_mul, Nat.add_zero] at x00 x01
  rw [Nat.one_mul] at x10 x11
  have HV0 := Lib.hid hv0
  have HV1 := Lib.hid hv1
  have HV2 := Lib.hid hv2
  simp only [List.length_cons, List.length_nil, Nat.zero_add, Nat.reduceAdd] at *
  clear hk hkl hkm hkr hkr2 hv0 hv1 hv2 hb hl3 hE3 hnb
  go_enter Tryz.func34, Tryz.ntmps34
  go_wp2_with fail
  refine (c_yes _ x0 _ O (zv_mk (kDigs.oneExt HV0.out ((((Ext.refl _ _).alloc _).alloc _).alloc _)))).mono ?_
  rintro e w4 ⟨rfl, hq4⟩
  have r0 : w4.cell? ⟨w.heap.size + 1 + 1, 0, none⟩ = some (.bool false) := hq4.cell (by go_simp) (fun h => h)
  have r1 : w4.cell? ⟨w.heap.size + 1 + 1, 1, none⟩ = some (.slice none 0 0) := hq4.cell (by go_simp) (fun h => h)
  have g0 : w4.frozen? ⟨w.heap.size + 1 + 1, 0, none⟩ = false := (hq4.frozen (by simp) (fun h => h)).trans (by go_simp)
  have g1 : w4.frozen? ⟨w.heap.size + 1 + 1, 1, none⟩ = false := (hq4.frozen (by simp) (fun h => h)).trans (by go_simp)
  have y10 := hq4.cell x10 (fun h => h)
  have y11 := hq4.cell x11 (fun h => h)
  have y20 := hq4.cell x20 (fun h => h)
  have y21 := hq4.cell x21 (fun h => h)
  have HE := Lib.hid (Ext.trans (((((Ext.refl NoB w).alloc _).alloc _).alloc _)) hq4)
  clear hq4 x00 x01 x10 x11 x20 x21
  cases hy : zYes x0
  · have hz : Hid (R = x2) := Lib.hid (by rw [HRR.out, atZ_eq (x := x0) rfl, hy]; rfl)
    clear hy
    go_wp2_with fail
    refine bodyPost_ret (v := .agg #[.bool x2.neg, .slice A2 x2.digs.length a2]) (by simp [results, Tryz.results34, go_sem, r0, r1, g0, g1]) rfl ⟨_, rfl, ?_, (HE.out.setNew (show w.heap.size ≤ w.heap.size + 1 + 1 by omega) _).setNew (show w.heap.size ≤ w.heap.size + 1 + 1 by omega) _⟩
    rw [hz.out]
    exact zv_mk (kDigs.oneExt HV2.out ((HE.out.setNew (show w.heap.size ≤ w.heap.size + 1 + 1 by omega) _).setNew (show w.heap.size ≤ w.heap.size + 1 + 1 by omega) _).no)
  · have hz : Hid (R = x1) := Lib.hid (by rw [HRR.out, atZ_eq (x := x0) rfl, hy]; rfl)
    clear hy
    go_wp2_with fail
    refine bodyPost_ret (v := .agg #[.bool x1.neg, .slice A1 x1.digs.length a1]) (by simp [results, Tryz.results34, go_sem, r0, r1, g0, g1]) rfl ⟨_, rfl, ?_, (HE.out.setNew (show w.heap.size ≤ w.heap.size + 1 + 1 by omega) _).setNew (show w.heap.size ≤ w.heap.size + 1 + 1 by omega) _⟩
    rw [hz.out]
    exact zv_mk (kDigs.oneExt HV1.out ((HE.out.setNew (show w.heap.size ≤ w.heap.size + 1 + 1 by omega) _).setNew (show w.heap.size ≤ w.heap.size + 1 + 1 by omega) _).no)
set_option maxRecDepth 100000 in
set_option maxHeartbeats 2000000 in
theorem c_value18n (fn : Int) (tk : List Int) (num : ByteArray) (kids : List ZInt) (m : Model) (vt vk vm vh : Value) (w : World) (O : Nat → Prop) (ht : kTerm.agg w O ⟨18, fn, tk, num⟩ vt) (hk : kZs.one w O kids vk) (hm : kModel.agg w O m vm) (hh : How w O vh) (hO : OldO O w) (hr : AllRight kids) (hl1 : kids.length = 1) (hlen : (atZ kids 0).digs.length ≤ 100000000) :
    Calls Tryz.prog 34 #[vt, vk, vm, vh] w fun e w' => ∃ v, e = .returned v ∧ kZ.agg w' O (negZ (atZ kids 0)) v ∧ Ext NoB w w' := by
  obtain ⟨A, c, rfl, ha, wo, wf, wn⟩ := term_open ht
  obtain ⟨S, s, B, d, rfl, hs, hb⟩ := model_open hm
  have HA := Lib.hid ha
  have HB := Lib.hid hb
  have HK := Lib.hid hk
  have HH := Lib.hid hh
  have HO := Lib.hid hO
  have HR := Lib.hid hr
  clear ht hm ha hs hh hO hr wo wf wn
  simp only
  obtain ⟨x0, rfl⟩ : ∃ x, kids = [x] := by
    match kids, hl1 with
    | [x], _ => exact ⟨x, rfl⟩
  obtain ⟨K, kc, rfl, hkl, hkm, hkr⟩ := Kd.one_slice hk
  obtain ⟨b, off, rfl, hnb, hkr2⟩ := hkr (by simp)
  have hE3 := (((Ext.refl NoB w).alloc (Obj.cells #[.int .i64 18, .int .i64 fn, .slice A tk.length c, .string num] 63)).alloc (Obj.cells #[.slice S m.sizes.length s, .slice B m.funs.length d] 31)).alloc (Obj.cells #[.bool false, .slice none 0 0] 50)
  obtain ⟨A0, a0, ⟨x00, x01⟩, hv0⟩ := row_z hkr2 (i := 0) rfl
  replace x00 := hE3.cell x00 (fun h => h)
  replace x01 := hE3.cell x01 (fun h => h)
  rw [Nat.zero_mul, Nat.add_zero] at x00 x01
  have HV0 := Lib.hid hv0
  have hz : atZ [x0] 0 = x0 := rfl
  rw [hz] at hlen ⊢
  simp only [List.length_cons, List.length_nil, Nat.zero_add] at *
  clear hk hkl hkm hkr hkr2 hv0 hb hl1 hE3 hnb hz
  go_enter Tryz.func34, Tryz.ntmps34
  go_wp2_with fail
  refine (c_Neg _ x0 _ (Plus O (w.heap.size + 1 + 1)) (zv_mk (kDigs.onePlus HV0.out ((((Ext.refl _ _).alloc _).alloc _).alloc _) (by omega))) ?_ (HR.out x0 (List.mem_singleton.2 rfl)) (by omega)).mono ?_
  · rintro b (hb | rfl)
    · have := HO.out b hb
      simp; omega
    · simp
  rintro e w4 ⟨v4, rfl, hz4, hq4⟩
  obtain ⟨A4, c4, rfl⟩ := z_form hz4
  have HZ4 := Lib.hid hz4
  have r0 : w4.cell? ⟨w.heap.size + 1 + 1, 0, none⟩ = some (.bool false) := hq4.cell (by go_simp) (fun h => h)
  have r1 : w4.cell? ⟨w.heap.size + 1 + 1, 1, none⟩ = some (.slice none 0 0) := hq4.cell (by go_simp) (fun h => h)
  have g0 : w4.frozen? ⟨w.heap.size + 1 + 1, 0, none⟩ = false := (hq4.frozen (by simp) (fun h => h)).trans (by go_simp)
  have g1 : w4.frozen? ⟨w.heap.size + 1 + 1, 1, none⟩ = false := (hq4.frozen (by simp) (fun h => h)).trans (by go_simp)
  have HE := Lib.hid (Ext.trans (((((Ext.refl NoB w).alloc _).alloc _).alloc _)) hq4)
  clear hz4 hq4
  go_wp2_with fail
  refine bodyPost_ret (v := .agg #[.bool (negZ x0).neg, .slice A4 (negZ x0).digs.length c4]) (by simp [results, Tryz.results34, go_sem, r0, r1, g0, g1]) rfl ⟨_, rfl, ?_, (HE.out.setNew (show w.heap.size ≤ w.heap.size + 1 + 1 by omega) _).setNew (show w.heap.size ≤ w.heap.size + 1 + 1 by omega) _⟩
  exact kZ.aggMinus HZ4.out (Ext.set2 _ _ _ _ _)
set_option maxRecDepth 100000 in
set_option maxHeartbeats 2000000 in
theorem c_value18 (fn : Int) (tk : List Int) (num : ByteArray) (kids : List ZInt) (m : Model) (vt vk vm vh : Value) (w : World) (O : Nat → Prop) (ht : kTerm.agg w O ⟨18, fn, tk, num⟩ vt) (hk : kZs.one w O kids vk) (hm : kModel.agg w O m vm) (hh : How w O vh) (hO : OldO O w) (hr : AllRight kids) (hne : kids.length ≠ 1) (hf : FoldKids subZ kids) :
    Calls Tryz.prog 34 #[vt, vk, vm, vh] w fun e w' => ∃ v, e = .returned v ∧ kZ.agg w' O (foldZ subZ kids) v ∧ Ext NoB w w' := by
  obtain ⟨A, c, rfl, ha, wo, wf, wn⟩ := term_open ht
  obtain ⟨S, s, B, d, rfl, hs, hb⟩ := model_open hm
  have HA := Lib.hid ha
  have HB := Lib.hid hb
  have HK := Lib.hid hk
  have HH := Lib.hid hh
  have HO := Lib.hid hO
  have HR := Lib.hid hr
  clear ht hm ha hs hh hO hr wo wf wn
  simp only
  obtain ⟨x, l, rfl⟩ : ∃ x l, kids = x :: l := by
    cases kids with
    | nil => exact hf.elim
    | cons x l => exact ⟨x, l, rfl⟩
  have HF := Lib.hid hf
  clear hf hb
  obtain ⟨K, kc, rfl, hkl, hkm, hkr⟩ := Kd.one_slice hk
  have hkl1 : l.length + 1 ≤ 9223372036854775807 := by unfold maxLen at hkm; simp only [List.length_cons] at hkl; omega
  clear hk hkl hkm hkr
  have hne' : decide (((l.length : Int) + 1) = 1) = false := by rw [decide_eq_false_iff_not]; simp only [List.length_cons] at hne; omega
  have hne2 : (((l.length : Int) + 1) == 1) = false := by rw [beq_eq_false_iff_ne]; simp only [List.length_cons] at hne; omega
  have hne3 : (((l.length + 1 : Nat) : Int) == 1) = false := by rw [beq_eq_false_iff_ne]; simp only [List.length_cons] at hne; omega
  rw [List.length_cons] at HK ⊢
  clear hne
  go_enter Tryz.func34, Tryz.ntmps34
  go_wp2_with fail
  refine (c_fold _ x l 69 subZ OkZ bin_Sub enter_Sub _ (Plus O (w.heap.size + 1 + 1)) (kZs.onePlus HK.out ((((Ext.refl _ _).alloc _).alloc _).alloc _) (by omega)) ?_ HF.out).mono ?_
  · rintro b (hb | rfl)
    · have := HO.out b hb
      simp; omega
    · simp
  rintro e w4 ⟨v4, rfl, hz4, hq4⟩
  obtain ⟨A4, c4, rfl⟩ := z_form hz4
  have HZ4 := Lib.hid hz4
  have r0 : w4.cell? ⟨w.heap.size + 1 + 1, 0, none⟩ = some (.bool false) := hq4.cell (by go_simp) (fun h => h)
  have r1 : w4.cell? ⟨w.heap.size + 1 + 1, 1, none⟩ = some (.slice none 0 0) := hq4.cell (by go_simp) (fun h => h)
  have g0 : w4.frozen? ⟨w.heap.size + 1 + 1, 0, none⟩ = false := (hq4.frozen (by simp) (fun h => h)).trans (by go_simp)
  have g1 : w4.frozen? ⟨w.heap.size + 1 + 1, 1, none⟩ = false := (hq4.frozen (by simp) (fun h => h)).trans (by go_simp)
  have HE := Lib.hid (Ext.trans (((((Ext.refl NoB w).alloc _).alloc _).alloc _)) hq4)
  clear hz4 hq4
  go_wp2_with fail
  refine bodyPost_ret (v := .agg #[.bool ((l.foldl subZ x)).neg, .slice A4 ((l.foldl subZ x)).digs.length c4]) (by simp [results, Tryz.results34, go_sem, r0, r1, g0, g1]) rfl ⟨_, rfl, ?_, (HE.out.setNew (show w.heap.size ≤ w.heap.size + 1 + 1 by omega) _).setNew (show w.heap.size ≤ w.heap.size + 1 + 1 by omega) _⟩
  exact kZ.aggMinus HZ4.out (Ext.set2 _ _ _ _ _)
set_option maxRecDepth 100000 in
set_option maxHeartbeats 2000000 in
theorem c_valueT (op fn : Int) (tk : List Int) (num : ByteArray) (kids : List ZInt) (m : Model) (vt vk vm vh : Value) (w : World) (O : Nat → Prop) (ht : kTerm.agg w O ⟨op, fn, tk, num⟩ vt) (hk : kZs.one w O kids vk) (hm : kModel.agg w O m vm) (hh : How w O vh) (hO : OldO O w) (hr : AllRight kids) (hop : op ≠ 3 ∧ op ≠ 4 ∧ op ≠ 10 ∧ op ≠ 17 ∧ op ≠ 18 ∧ op ≠ 19) (hko : KidsOk op kids.length) (R : ZInt) (hR : R = if truthT op kids then ofN 1 else ofN 0) :
    Calls Tryz.prog 34 #[vt, vk, vm, vh] w fun e w' => ∃ v, e = .returned v ∧ kZ.agg w' O (R) v ∧ Ext NoB w w' := by
  obtain ⟨A, c, rfl, ha, wo, wf, wn⟩ := term_open ht
  obtain ⟨S, s, B, d, rfl, hs, hb⟩ := model_open hm
  have HA := Lib.hid ha
  have HB := Lib.hid hb
  have HK := Lib.hid hk
  have HH := Lib.hid hh
  have HO := Lib.hid hO
  have HR := Lib.hid hr
  clear ht hm ha hs hh hO hr wo wf wn
  simp only
  have HKO := Lib.hid hko
  have HRR := Lib.hid hR
  clear hR
  have e3 : (op == 3) = false := by rw [beq_eq_false_iff_ne]; omega
  have e4 : (op == 4) = false := by rw [beq_eq_false_iff_ne]; omega
  have e10 : (op == 10) = false := by rw [beq_eq_false_iff_ne]; omega
  have e17 : (op == 17) = false := by rw [beq_eq_false_iff_ne]; omega
  have e18 : (op == 18) = false := by rw [beq_eq_false_iff_ne]; omega
  have e19 : (op == 19) = false := by rw [beq_eq_false_iff_ne]; omega
  clear hop hko hb
  go_enter Tryz.func34, Tryz.ntmps34
  go_wp2_with fail
  have HOLD : Hid (OldO O _) := Lib.hid (HO.out.ext ((((Ext.refl NoB w).alloc (Obj.cells #[.int .i64 op, .int .i64 fn, .slice A tk.length c, .string num] 63)).alloc (Obj.cells #[.slice S m.sizes.length s, .slice B m.funs.length d] 31)).alloc (Obj.cells #[.bool false, .slice none 0 0] 50)))
  refine (c_truth op _ vh kids _ O (kZs.oneExt HK.out ((((Ext.refl _ _).alloc _).alloc _).alloc _)) HOLD.out (HH.out.ext ((((Ext.refl _ _).alloc _).alloc _).alloc _)) HR.out HKO.out).mono ?_
  rintro e w4 ⟨rfl, hq4⟩
  have r0 : w4.cell? ⟨w.heap.size + 1 + 1, 0, none⟩ = some (.bool false) := hq4.cell (by go_simp) (fun h => h)
  have r1 : w4.cell? ⟨w.heap.size + 1 + 1, 1, none⟩ = some (.slice none 0 0) := hq4.cell (by go_simp) (fun h => h)
  have g0 : w4.frozen? ⟨w.heap.size + 1 + 1, 0, none⟩ = false := (hq4.frozen (by simp) (fun h => h)).trans (by go_simp)
  have g1 : w4.frozen? ⟨w.heap.size + 1 + 1, 1, none⟩ = false := (hq4.frozen (by simp) (fun h => h)).trans (by go_simp)
  have HE := Lib.hid (Ext.trans (((((Ext.refl NoB w).alloc _).alloc _).alloc _)) hq4)
  clear hq4 HOLD
  have hlt := cell_lt r0
  have HOP : Hid (OldO (Plus O (w.heap.size + 1 + 1)) w4) := Lib.hid (old_plus HO.out HE.out hlt)
  cases hy : truthT op kids
  · have HF := Lib.hid (show R = ofN 0 by rw [HRR.out, hy]; rfl)
    clear hy
    go_wp2_with fail
    refine (c_Of 0 _ _ HOP.out (by omega)).mono ?_
    rintro e w5 ⟨v5, rfl, hz5, hq5⟩
    obtain ⟨A5, c5, rfl⟩ := z_form hz5
    have HZ5 := Lib.hid hz5
    have q0 := hq5.cell r0 (fun h => h)
    have q1 := hq5.cell r1 (fun h => h)
    have j0 := (hq5.frozen hlt (fun h => h)).trans g0
    have j1 := (hq5.frozen hlt (fun h => h)).trans g1
    have HE5 := Lib.hid (HE.out.trans hq5)
    clear hz5 hq5 r0 r1 g0 g1
    go_wp2_with fail
    refine bodyPost_ret (v := .agg #[.bool (ofN 0).neg, .slice A5 (ofN 0).digs.length c5]) (by simp [results, Tryz.results34, go_sem, q0, q1, j0, j1]) rfl ⟨_, rfl, ?_, (HE5.out.setNew (show w.heap.size ≤ w.heap.size + 1 + 1 by omega) _).setNew (show w.heap.size ≤ w.heap.size + 1 + 1 by omega) _⟩
    rw [HF.out]
    exact kZ.aggMinus HZ5.out (Ext.set2 _ _ _ _ _)
  · have HF := Lib.hid (show R = ofN 1 by rw [HRR.out, hy]; rfl)
    clear hy
    go_wp2_with fail
    refine (c_Of 1 _ _ HOP.out (by omega)).mono ?_
    rintro e w5 ⟨v5, rfl, hz5, hq5⟩
    obtain ⟨A5, c5, rfl⟩ := z_form hz5
    have HZ5 := Lib.hid hz5
    have q0 := hq5.cell r0 (fun h => h)
    have q1 := hq5.cell r1 (fun h => h)
    have j0 := (hq5.frozen hlt (fun h => h)).trans g0
    have j1 := (hq5.frozen hlt (fun h => h)).trans g1
    have HE5 := Lib.hid (HE.out.trans hq5)
    clear hz5 hq5 r0 r1 g0 g1
    go_wp2_with fail
    refine bodyPost_ret (v := .agg #[.bool (ofN 1).neg, .slice A5 (ofN 1).digs.length c5]) (by simp [results, Tryz.results34, go_sem, q0, q1, j0, j1]) rfl ⟨_, rfl, ?_, (HE5.out.setNew (show w.heap.size ≤ w.heap.size + 1 + 1 by omega) _).setNew (show w.heap.size ≤ w.heap.size + 1 + 1 by omega) _⟩
    rw [HF.out]
    exact kZ.aggMinus HZ5.out (Ext.set2 _ _ _ _ _)
end
theorem c_value (t : Term) (kids : List ZInt) (m : Model) (vt vk vm vh : Value) (w : World) (O : Nat → Prop) (ht : kTerm.agg w O t vt) (hk : kZs.one w O kids vk) (hm : kModel.agg w O m vm) (hh : How w O vh) (hO : OldO O w) (hr : AllRight kids) (hv : ValOk t kids m) :
    Calls Tryz.prog 34 #[vt, vk, vm, vh] w fun e w' => ∃ v, e = .returned v ∧ kZ.agg w' O (valueT t kids m) v ∧ Ext NoB w w' := by
  obtain ⟨op, fn, tk, num⟩ := t
  unfold ValOk at hv
  unfold valueT
  simp only at hv ⊢
  by_cases e3 : op = 3
  · subst e3; simp only [if_true] at hv ⊢; exact c_value3 fn tk num kids m vt vk vm vh w O ht hk hm hh hO hr hv.1 hv.2.1 hv.2.2
  by_cases e4 : op = 4
  · subst e4; simp only [e3, if_true, if_false] at hv ⊢; exact c_value4 fn tk num kids m vt vk vm vh w O ht hk hm hh hO hr hv
  by_cases e10 : op = 10
  · subst e10; simp only [e3, e4, if_true, if_false] at hv ⊢; exact c_value10 fn tk num kids m vt vk vm vh w O ht hk hm hh hO hr hv _ rfl
  by_cases e17 : op = 17
  · subst e17; simp only [e3, e4, e10, if_true, if_false] at hv ⊢; exact c_value17 fn tk num kids m vt vk vm vh w O ht hk hm hh hO hr hv
  by_cases e19 : op = 19
  · subst e19; simp only [e3, e4, e10, e17, if_true, if_false] at hv ⊢; exact c_value19 fn tk num kids m vt vk vm vh w O ht hk hm hh hO hr hv
  by_cases e18 : op = 18
  · subst e18; simp only [e3, e4, e10, e17, e19, if_true, if_false] at hv ⊢
    by_cases hl : kids.length = 1
    · rw [if_pos hl] at hv ⊢
      exact c_value18n fn tk num kids m vt vk vm vh w O ht hk hm hh hO hr hl hv
    · rw [if_neg hl] at hv ⊢
      exact c_value18 fn tk num kids m vt vk vm vh w O ht hk hm hh hO hr hl hv
  simp only [e3, e4, e10, e17, e18, e19, if_false] at hv ⊢
  exact c_valueT op fn tk num kids m vt vk vm vh w O ht hk hm hh hO hr ⟨e3, e4, e10, e17, e18, e19⟩ hv _ rfl
end Go.Proofs.YtfpmapbimhdafaaGreatDoor

namespace Go.Proofs.YtfpmapbimhdafaaGreatDoor
open Go.RowKit
set_option linter.unusedVariables false
set_option linter.unusedSimpArgs false

theorem step_append {P : Program} {ops : Array Oper} {o : Oper} {a : Act} {K : Act → World → Prop} {Q : Exit → Act → World → Prop} {E : Prop} {α : Type} (k : Kd α) (pos : 0 < k.size) {w : World} (hgd : o.guard = none) (s x : Operand) (t : TypeId)
    (ho : o.op = .call { callee := .builtin .append, args := #[s, x], argTypes := #[t, t] })
    (base : Nat) (e : TypeId) (z : Value) (bytes : Nat) (ht : P.underlying t = some (.slice e))
    (hinfo : (P.info? e).map (fun i => (i.zero, i.size, i.bytes)) = some (some z, k.size, bytes)) (hzs : z.cells.size = k.size) (O : Nat → Prop)
    (v : Value) (hs : a.eval s = v) (xs : List α) (hown : Own w base e k O v xs) (src : Value) (hx : a.eval x = src) (ys : List α) (hsrc : (k.slice pos).one w (PlusV O v) ys src)
    (hb0 : 0 < bytes) (hbytes : (xs.length + ys.length) * bytes ≤ 140737488355328) (hbase : base ≤ w.heap.size)
    (h : ∀ v' w', Own w' base e k O v' (xs ++ ys) → Ext (fun b => v.ownBlock = some b) w w' → (v'.ownBlock = v.ownBlock ∨ v'.ownBlock = some w.heap.size) → K (a.put o.dst v') w') :
    if Region.wanted o (yielded ops a.tmps) = true then Oper.wp P o a w K Q else E := by
  have hw : Region.wanted o (yielded ops a.tmps) = true := by simp [Region.wanted, hgd]
  rw [if_pos hw]
  obtain ⟨v', w', hr, h2, h3, h4⟩ := run_append_kd (P := P) base t o.type e z bytes ht hinfo hzs O v xs hown src ys hsrc hb0 hbytes hbase
  unfold Oper.wp execOp
  simp only [ho, resolve, invoke, builtin, Sem.run_bind, Sem.run_pure, Result.andThen_ok, List.map_toArray, List.map_cons, List.map_nil, hs, hx, hr]
  exact h v' w' h2 h3 h4

theorem step_append1 {P : Program} {ops : Array Oper} {o : Oper} {a : Act} {K : Act → World → Prop} {Q : Exit → Act → World → Prop} {E : Prop} {α : Type} (k : Kd α) (pos : 0 < k.size) {W : World} (hgd : o.guard = none) (s x : Operand) (t : TypeId)
    (ho : o.op = .call { callee := .builtin .append, args := #[s, x], argTypes := #[t, t] })
    (base : Nat) (e : TypeId) (z : Value) (bytes : Nat) (ht : P.underlying t = some (.slice e))
    (hinfo : (P.info? e).map (fun i => (i.zero, i.size, i.bytes)) = some (some z, k.size, bytes)) (hzs : z.cells.size = k.size) (O : Nat → Prop)
    (v : Value) (hs : a.eval s = v) (xs : List α) (hown : Own W base e k O v xs) (hx : a.eval x = .slice (some ⟨W.heap.size, 0, none⟩) 1 1) (y : α) (cs : List Value) (hy : k.rep W (PlusV O v) y cs) (hO : ∀ b, O b → b < W.heap.size)
    (hb0 : 0 < bytes) (hbytes : (xs.length + 1) * bytes ≤ 140737488355328) (hbase : base ≤ W.heap.size)
    (h : ∀ v' w', Own w' base e k O v' (xs ++ [y]) → Ext (fun b => v.ownBlock = some b) W w' → (v'.ownBlock = v.ownBlock ∨ ∃ g, v'.ownBlock = some g ∧ W.heap.size ≤ g) → K (a.put o.dst v') w') :
    if Region.wanted o (yielded ops a.tmps) = true then Oper.wp P o a (W.alloc (.cells cs.toArray e)) K Q else E := by
  have hn : ¬ PlusV O v W.heap.size := by
    rintro (h | h)
    · exact absurd (hO _ h) (Nat.lt_irrefl _)
    · exact absurd (hown.base h).2 (Nat.lt_irrefl _)
  refine step_append k pos hgd s x t ho base e z bytes ht hinfo hzs O v hs xs (hown.ext ((Ext.refl _ _).alloc _)) _ hx [y] (lit_one hy hn) hb0 hbytes (by simp; omega) ?_
  intro v' w' h1 h2 h3
  refine h v' w' h1 ((Ext.trans ((Ext.refl _ _).alloc _) h2)) ?_
  rcases h3 with h3 | h3
  · exact .inl h3
  · exact .inr ⟨_, h3, by simp⟩

/-- A box that is read, and one for the result. -/
def BoxR (w : World) (v0 v1 u0 u1 : Value) (W : World) : Prop :=
  W.cell? ⟨w.heap.size, 0, none⟩ = some v0 ∧ W.cell? ⟨w.heap.size, 1, none⟩ = some v1 ∧ W.cell? ⟨w.heap.size + 1, 0, none⟩ = some u0 ∧ W.cell? ⟨w.heap.size + 1, 1, none⟩ = some u1 ∧
  W.frozen? ⟨w.heap.size + 1, 0, none⟩ = false ∧ W.frozen? ⟨w.heap.size + 1, 1, none⟩ = false ∧ Hid (Ext NoB w W)
theorem BoxR.ext {w W W' : World} {v0 v1 u0 u1 : Value} (h : BoxR w v0 v1 u0 u1 W) (he : Ext NoB W W') : BoxR w v0 v1 u0 u1 W' := by
  obtain ⟨h0, h1, h2, h3, f2, f3, hE⟩ := h
  exact ⟨he.cell h0 (fun h => h), he.cell h1 (fun h => h), he.cell h2 (fun h => h), he.cell h3 (fun h => h), (he.frozen (cell_lt h2) (fun h => h)).trans f2, (he.frozen (cell_lt h3) (fun h => h)).trans f3, hE.out.trans he⟩
theorem BoxR.start (w : World) (v0 v1 u0 u1 : Value) (t u : TypeId) : BoxR w v0 v1 u0 u1 ((w.alloc (.cells #[v0, v1] t)).alloc (.cells #[u0, u1] u)) :=
  ⟨by go_simp, by go_simp, by go_simp, by go_simp, by go_simp, by go_simp, ((Ext.refl _ _).alloc _).alloc _⟩
theorem BoxR.ofExt {w W : World} {v0 v1 u0 u1 : Value} (h : BoxR w v0 v1 u0 u1 W) : Ext NoB w W := h.2.2.2.2.2.2.out
theorem BoxR.size {w W : World} {v0 v1 u0 u1 : Value} (h : BoxR w v0 v1 u0 u1 W) : w.heap.size + 1 < W.heap.size := cell_lt h.2.2.1
theorem BoxR.drew {w W : World} {v0 v1 u0 u1 : Value} (h : BoxR w v0 v1 u0 u1 W) : BoxR w v0 v1 u0 u1 W.drew := h.ext (Ext.refl _ _).drew

section
attribute [local go_sem] setCell_same
set_option maxRecDepth 100000 in
set_option maxHeartbeats 1000000 in
theorem c_own (va : Value) (x : ZInt) (w : World) (O : Nat → Prop) (ha : kZ.agg w O x va) (hO : OldO O w) (lx : x.digs.length ≤ 10000000000) :
    Calls Tryz.prog 33 #[va] w fun e w' => ∃ v, e = .returned v ∧ kZ.agg w' O x v ∧ Ext NoB w w' := by
  obtain ⟨A, c, rfl⟩ := z_form ha
  have HO := Lib.hid hO
  have HD : Hid (kDigs.one w O x.digs (.slice A x.digs.length c)) := (z_digs ha).2
  have ST := Lib.hid (BoxR.start w (.bool x.neg) (.slice A x.digs.length c) (.bool false) (.slice none 0 0) 50 50).drew
  clear ha hO
  go_enter Tryz.func33, Tryz.ntmps33
  go_wp2_with fail
  go_region_held3 (fun W => W.cell? ⟨w.heap.size, 0, none⟩ = some (.bool x.neg) ∧ W.cell? ⟨w.heap.size, 1, none⟩ = some (.slice A x.digs.length c) ∧ Hid (Ext NoB w W))
    (first | exact ⟨ST.out.1, ST.out.2.1, ST.out.2.2.2.2.2.2⟩ | assumption | exact HS2.out | (refine Box1R.set (Box1R.set ?_ _ _) _ _; assumption))
    (first
      | (refine step_append kU Nat.one_pos rfl (.const (.slice none 0 0)) (.tmp 6) 48 rfl (w.heap.size + 2) 101 _ 4 Tryz.underlying48 info_u32 rfl (Plus O (w.heap.size + 1)) (.slice none 0 0) rfl [] (Own.nil _ _ _ _) _ rfl x.digs (kDigs.oneV (kDigs.onePlus HD.out ST.out.ofExt.no (by omega)) (Ext.refl _ _) (fun g h => by cases h)) (by omega) (by simp only [List.length_nil]; omega) ST.out.size ?_; intro v2 w2 hO2 hE2 hat2; (have hq2 : Ext NoB _ w2 := hE2.mono (fun i _ h => by cases h)); (have HO2 := Lib.hid hO2); (obtain ⟨A2, c2, rfl, hl2, hm2⟩ := hO2.shape); (have HB2 := Lib.hid (ST.out.ext hq2)); (obtain ⟨-, -, r0, r1, g0, g1, -⟩ := HB2.out); (have HS2 : Hid (Box1R w (.bool x.neg) (.slice A x.digs.length c) w2) := ⟨HB2.out.1, HB2.out.2.1, HB2.out.2.2.2.2.2.2⟩); clear hO2 hE2 hat2 hl2 hm2 hq2))
  have HX2 := Lib.hid HB2.out.ofExt
  have HV : Hid (kDigs.one w2 (Plus O (w.heap.size + 1)) x.digs (.slice A2 x.digs.length c2)) := Lib.hid (HO2.out.slice (pos := Nat.one_pos) (fun b hb => hb.elim (fun hb => by have := HO.out b hb; omega) (fun e => by omega)))
  clear HO2 HB2 HS2
  go_wp2_with fail
  refine bodyPost_ret (v := .agg #[.bool x.neg, .slice A2 x.digs.length c2]) (by simp [results, Tryz.results33, go_sem, r0, r1, g0, g1]) rfl ⟨_, rfl, ?_, (HX2.out.setNew (show w.heap.size ≤ w.heap.size + 1 by omega) _).setNew (show w.heap.size ≤ w.heap.size + 1 by omega) _⟩
  exact zv_mk (kDigs.oneMinus HV.out (Ext.set2 _ _ _ _ _))
end
end Go.Proofs.YtfpmapbimhdafaaGreatDoor
