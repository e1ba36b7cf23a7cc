/- Contracts: rows cut behind, signs put, rows copied. Contracts: sums and differences of digits to the base of 10^9. Contracts: an integer that may be is itself; integers held against one another. Contracts: sums of integers. Contracts: an integer with the other sign. Contracts: integers as machine integers. Contracts: whether a number is a thing of a sort; whether arguments are a row's. Contracts: rows of integers held against one another; what a table gives. -/
import Derived.Test.YtfpmapbimhdafaaGreatDoorPA
namespace Go.Proofs.YtfpmapbimhdafaaGreatDoor
open Go.RowKit
set_option linter.unusedVariables false
set_option linter.unusedSimpArgs false

/-- How many digits are left of k, without noughts at the end. -/
def cutTo (xs : List Int) : Nat → Nat
  | 0 => 0
  | k + 1 => if rdI xs k = 0 then cutTo xs k else k + 1
theorem cutTo_le (xs : List Int) : ∀ k, cutTo xs k ≤ k
  | 0 => Nat.le_refl _
  | k + 1 => by
    rw [cutTo]
    split
    · exact Nat.le_succ_of_le (cutTo_le xs k)
    · exact Nat.le_refl _
theorem cutTo_zero {xs : List Int} {k : Nat} (h : rdI xs k = 0) : cutTo xs (k + 1) = cutTo xs k := by rw [cutTo, if_pos h]
theorem cutTo_stop {xs : List Int} {k : Nat} (h : ¬ rdI xs k = 0) : cutTo xs (k + 1) = k + 1 := by rw [cutTo, if_neg h]
def cutL (xs : List Int) : List Int := xs.take (cutTo xs xs.length)
theorem cutL_len (xs : List Int) : (cutL xs).length = cutTo xs xs.length := by
  rw [cutL, List.length_take, Nat.min_eq_left (cutTo_le _ _)]

theorem slice_take {α : Type} {e : Kd α} {pos : 0 < e.size} {w : World} {O : Nat → Prop} {xs : List α} {A : Option Addr} {n c : Nat} (hn : n ≤ xs.length) (hc : xs.length ≤ c) (hm : c ≤ maxLen)
    (hr : xs ≠ [] → ∃ b off, A = some ⟨b, off, none⟩ ∧ ¬ O b ∧ e.row w O b off xs) : (e.slice pos).one w O (xs.take n) (.slice A n c) := by
  have hl : (xs.take n).length = n := by rw [List.length_take, Nat.min_eq_left hn]
  refine ⟨A, c, by rw [hl], by omega, hm, fun hne => ?_⟩
  obtain ⟨b, off, hA, hb, hrow⟩ := hr (by rintro rfl; simp at hne)
  refine ⟨b, off, hA, hb, fun i x hx => hrow i x ?_⟩
  have hi : i < n := by
    rcases Nat.lt_or_ge i n with h | h
    · exact h
    · rw [List.getElem?_eq_none (by omega)] at hx; cases hx
  rwa [List.getElem?_take_of_lt hi] at hx

set_option maxRecDepth 100000 in
set_option maxHeartbeats 400000 in
theorem c_cut (va : Value) (xs : List Int) (w : World) (O : Nat → Prop) (ha : kInts.one w O xs va) :
    Calls Tryz.prog 106 #[va] w fun e w' => ∃ v, e = .returned v ∧ kInts.one w O (cutL xs) v ∧ w' = w := by
  obtain ⟨A, c, rfl, hl, hm, hr⟩ := Kd.one_slice ha
  have HA := Lib.hid hr
  have HM := Lib.hid hm
  clear hr ha
  have hm' : xs.length ≤ 9223372036854775807 := by unfold maxLen at hm; omega
  clear hm
  go_enter Tryz.func106, Tryz.ntmps106
  go_wp2_with fail
  go_loop [3] (fun i => ∃ k : Nat, k ≤ xs.length ∧ i = .int .i64 k ∧ Hid (cutTo xs xs.length = cutTo xs k)) (fun i => (intOf i).toNat)
  case atStart => exact ⟨_, Nat.le_refl _, rfl, Lib.hid rfl⟩
  case round =>
    obtain ⟨k, hk, rfl, HK⟩ := hrel
    rcases k with _ | k
    · go_wp2_with fail
      go_ret
      refine ⟨_, rfl, ?_, rfl⟩
      rw [cutL, HK.out]
      exact slice_take (Nat.zero_le _) hl HM.out HA.out
    · obtain ⟨b, off, rfl, _, c1, _⟩ := ints_at HA.out (show k < xs.length by omega)
      by_cases he : rdI xs k = 0
      · have hb : (rdI xs k == 0) = true := by rw [he]; rfl
        have HK' := Lib.hid (HK.out.trans (cutTo_zero he))
        clear he
        go_wp2_with fail
        exact ⟨⟨k, by omega, by go_num, HK'⟩, by simp [intOf]⟩
      · have hb : (rdI xs k == 0) = false := by rw [beq_eq_false_iff_ne]; exact he
        have HK' := Lib.hid (HK.out.trans (cutTo_stop he))
        clear he
        go_wp2_with fail
        go_ret
        refine ⟨_, rfl, ?_, rfl⟩
        rw [cutL, HK'.out]
        exact slice_take hk hl HM.out HA.out

/-- The integer, the number of a sign and digits. -/
def signZ (neg : Bool) (xs : List Int) : ZInt := if (cutL xs).length = 0 then ⟨false, []⟩ else ⟨neg, cutL xs⟩
def signN (neg : Bool) (xs : List Int) : Num := ⟨neg && decide (0 < (cutL xs).length), cutL xs⟩

theorem num_open {w : World} {O : Nat → Prop} {x : Num} {v : Value} (h : kNum.agg w O x v) :
    ∃ A c, v = .agg #[.bool x.neg, .slice A x.d.length c] ∧ x.d.length ≤ c ∧ c ≤ maxLen ∧ (x.d ≠ [] → ∃ b off, A = some ⟨b, off, none⟩ ∧ ¬ O b ∧ (Kd.int .i64).row w O b off x.d) := by
  obtain ⟨cs, rfl, h⟩ := h
  obtain ⟨v, rfl, h'⟩ := kNum_iff.1 h
  obtain ⟨A, c, rfl, h1, h2, h3⟩ := Kd.one_slice h'
  exact ⟨A, c, rfl, h1, h2, h3⟩
theorem num_mk {w : World} {O : Nat → Prop} {x : Num} {v : Value} (h : kInts.one w O x.d v) : kNum.agg w O x (.agg #[.bool x.neg, v]) := ⟨[.bool x.neg, v], rfl, kNum_iff.2 ⟨_, rfl, h⟩⟩
theorem zv_mk {w : World} {O : Nat → Prop} {x : ZInt} {v : Value} (h : kDigs.one w O x.digs v) : kZ.agg w O x (.agg #[.bool x.neg, v]) := ⟨[.bool x.neg, v], rfl, kZ_iff.2 ⟨_, rfl, h⟩⟩

set_option maxRecDepth 100000 in
set_option maxHeartbeats 400000 in
theorem c_make1 (neg : Bool) (va : Value) (xs : List Int) (w : World) (O : Nat → Prop) (ha : kInts.one w O xs va) :
    Calls Tryz.prog 84 #[.bool neg, va] w fun e w' => ∃ v, e = .returned v ∧ kNum.agg w' O (signN neg xs) v ∧ Ext NoB w w' := by
  have HA := Lib.hid ha
  clear ha
  go_enter Tryz.func84, Tryz.ntmps84
  go_wp2_with fail
  refine (c_cut va xs _ (Plus O w.heap.size) (kInts.onePlus HA.out ((Ext.refl _ _).alloc _) (Nat.le_refl _))).mono ?_
  rintro e w1 ⟨v, rfl, hv, rfl⟩
  have HV := Lib.hid hv
  obtain ⟨A, c, rfl, hl, hm, _⟩ := Kd.one_slice hv
  clear hv
  unfold maxLen at hm
  cases neg
  · go_wp2_with fail
    refine bodyPost_ret (v := .agg #[.bool false, .slice A (cutL xs).length c]) (by simp [results, Tryz.results84, go_sem]) rfl ?_
    exact ⟨_, rfl, num_mk (x := signN false xs) (kInts.oneMinus HV.out (Ext.swap _ _ _ _)), (Ext.refl _ _).alloc _⟩
  · go_wp2_with fail
    refine bodyPost_ret (v := .agg #[.bool (decide (0 < (cutL xs).length)), .slice A (cutL xs).length c]) (by simp [results, Tryz.results84, go_sem]) rfl ?_
    exact ⟨_, rfl, num_mk (x := signN true xs) (kInts.oneMinus HV.out (Ext.swap _ _ _ _)), (Ext.refl _ _).alloc _⟩

set_option maxRecDepth 100000 in
set_option maxHeartbeats 400000 in
theorem c_signed (neg : Bool) (va : Value) (xs : List Int) (w : World) (O : Nat → Prop) (ha : kDigs.one w O xs va) :
    Calls Tryz.prog 78 #[.bool neg, va] w fun e w' => ∃ v, e = .returned v ∧ kZ.agg w' O (signZ neg xs) v ∧ Ext NoB w w' := by
  obtain ⟨A, c, rfl, hl, hm, hr⟩ := Kd.one_slice ha
  have HA := Lib.hid hr
  have HM := Lib.hid hm
  clear hr ha
  have hm' : xs.length ≤ 9223372036854775807 := by unfold maxLen at hm; omega
  clear hm
  go_enter Tryz.func78, Tryz.ntmps78
  go_wp2_with fail
  go_loop [5] (fun i => ∃ k : Nat, k ≤ xs.length ∧ i = .int .i64 k ∧ Hid (cutTo xs xs.length = cutTo xs k)) (fun i => (intOf i).toNat)
  case atStart => exact ⟨_, Nat.le_refl _, rfl, Lib.hid rfl⟩
  case round =>
    obtain ⟨k, hk, rfl, HK⟩ := hrel
    rcases k with _ | k
    · go_wp2_with fail
      refine bodyPost_ret (v := .agg #[.bool false, .slice none 0 0]) (by simp [results, Tryz.results78, go_sem]) rfl ?_
      have hz : signZ neg xs = ⟨false, []⟩ := by
        have h := cutL_len xs
        rw [HK.out] at h
        rw [signZ, if_pos (show (cutL xs).length = 0 from h)]
      refine ⟨_, rfl, ?_, (Ext.refl _ _).alloc _⟩
      rw [hz]
      exact zv_mk (x := ⟨false, []⟩) Kd.nil_mk
    · obtain ⟨b, off, rfl, _, c1, _⟩ := ints_at HA.out (show k < xs.length by omega)
      have l1 := cell_lt c1
      by_cases he : rdI xs k = 0
      · have hb : (rdI xs k == 0) = true := by rw [he]; rfl
        have HK' := Lib.hid (HK.out.trans (cutTo_zero he))
        clear he
        go_wp2_with fail
        exact ⟨⟨k, by omega, by go_num, HK'⟩, by simp [intOf]⟩
      · have hb : (rdI xs k == 0) = false := by rw [beq_eq_false_iff_ne]; exact he
        have HK' := Lib.hid (HK.out.trans (cutTo_stop he))
        clear he
        go_wp2_with fail
        refine bodyPost_ret (v := .agg #[.bool neg, .slice (some ⟨b, off, none⟩) (k + 1) c]) (by simp [results, Tryz.results78, go_sem]) rfl ?_
        refine ⟨_, rfl, ?_, (Ext.refl _ _).alloc _⟩
        have hz : signZ neg xs = ⟨neg, xs.take (k + 1)⟩ := by
          have h := cutL_len xs
          rw [HK'.out] at h
          rw [signZ, if_neg (by omega), cutL, HK'.out]
        rw [hz]
        exact zv_mk (x := ⟨neg, xs.take (k + 1)⟩) (kDigs.oneExt (slice_take hk hl HM.out HA.out) ((Ext.refl _ _).alloc _))
end Go.Proofs.YtfpmapbimhdafaaGreatDoor

namespace Go.Proofs.YtfpmapbimhdafaaGreatDoor
open Go.RowKit
set_option linter.unusedVariables false
set_option linter.unusedSimpArgs false

/-- Digits to the base of 10^9. -/
def DigR (xs : List Int) : Prop := ∀ k, k < xs.length → 0 ≤ rdI xs k ∧ rdI xs k < 1000000000
abbrev kU : Kd Int := Kd.int .u32
def plusTo (xs ys : List Int) : Nat → List Int × Int
  | 0 => ([], 0)
  | k + 1 => ((plusTo xs ys k).1 ++ [(rdI xs k + (plusTo xs ys k).2 + (if k < ys.length then rdI ys k else 0)) % 1000000000], (rdI xs k + (plusTo xs ys k).2 + (if k < ys.length then rdI ys k else 0)) / 1000000000)
def plusE (xs ys : List Int) : List Int := (plusTo xs ys xs.length).1 ++ [(plusTo xs ys xs.length).2]
def plusD (xs ys : List Int) : List Int := if xs.length < ys.length then plusE ys xs else plusE xs ys
theorem plusTo_both {xs ys os : List Int} {k : Nat} {c : Int} (h : plusTo xs ys k = (os, c)) (hk : k < ys.length) : plusTo xs ys (k + 1) = (os ++ [(rdI xs k + c + rdI ys k) % 1000000000], (rdI xs k + c + rdI ys k) / 1000000000) := by
  rw [plusTo, h, if_pos hk]
theorem plusTo_one {xs ys os : List Int} {k : Nat} {c : Int} (h : plusTo xs ys k = (os, c)) (hk : ¬ k < ys.length) : plusTo xs ys (k + 1) = (os ++ [(rdI xs k + c) % 1000000000], (rdI xs k + c) / 1000000000) := by
  rw [plusTo, h, if_neg hk, Int.add_zero]
theorem plusTo_len (xs ys : List Int) : ∀ k, (plusTo xs ys k).1.length = k
  | 0 => rfl
  | k + 1 => by rw [plusTo, List.length_append, plusTo_len xs ys k]; rfl
theorem wf_u {n : Int} (h0 : 0 ≤ n) (h1 : n ≤ 4294967295) : (Lit.int .u32 n).wf = true := by
  have h2 : IntKind.u32.min = 0 := by decide
  have h3 : IntKind.u32.max = 4294967295 := by decide
  simp only [Lit.wf, h2, h3, Bool.and_eq_true, decide_eq_true_eq]
  omega

theorem plus_loop_end {xs ys os : List Int} {c : Int} (h : plusTo xs ys xs.length = (os, c)) : os ++ [c] = plusE xs ys := by rw [plusE, h]

set_option maxRecDepth 100000 in
set_option maxHeartbeats 1000000 in
theorem plus_core (va vb : Value) (xs ys : List Int) (w : World) (O : Nat → Prop) (ha : kDigs.one w O xs va) (hb : kDigs.one w O ys vb) (hO : OldO O w) (dx : DigR xs) (dy : DigR ys) (lx : xs.length ≤ 100000000) (hge : ys.length ≤ xs.length) :
    Calls Tryz.prog 87 #[va, vb] w fun e w' => ∃ v, e = .returned v ∧ Own w' w.heap.size 101 kU O v (plusE xs ys) ∧ Ext NoB w w' := by
  obtain ⟨A, c, rfl, hl, hm, hr⟩ := Kd.one_slice ha
  obtain ⟨B, d, rfl, hl', hm', hr'⟩ := Kd.one_slice hb
  have HA := Lib.hid hr
  have HB := Lib.hid hr'
  have HO := Lib.hid hO
  have DX := Lib.hid dx
  have DY := Lib.hid dy
  clear hr hr' ha hb hO dx dy hm hm'
  go_enter Tryz.func87, Tryz.ntmps87
  go_wp2_with (at_make; refine wpl_make0 kU rfl (.const (.int .i64 0)) (.tmp 18) 48 rfl w.heap.size 101 _ 4 Tryz.underlying48 info_u32 O .i64 .i64 ((xs.length : Int) + 1) (xs.length + 1) rfl rfl (by omega) (by omega) (by omega) (Nat.le_refl _) ?_; intro v1 w1 hv1 hO1 hE1)
  have HE1 := Lib.hid hE1
  clear hE1
  go_loopw [5, 6, 22] (fun out cc i wr => ∃ (k : Nat) (q : Int) (os : List Int), k ≤ xs.length ∧ i = .int .i64 k ∧ cc = .int .u32 q ∧ 0 ≤ q ∧ q ≤ 1 ∧ Hid (plusTo xs ys k = (os, q)) ∧ Own wr w.heap.size 101 kU O out os ∧ Hid (Ext NoB w wr)) (fun _ _ i _ => xs.length - (intOf i).toNat)
  case atStart => exact ⟨0, 0, [], by omega, rfl, rfl, by omega, by omega, Lib.hid rfl, hO1, HE1⟩
  case round =>
    obtain ⟨k, q, os, hk, rfl, rfl, hq0, hq1, HP, hown, HX⟩ := hrel
    clear hO1 hv1 HE1
    have hos : os.length = k := by have := plusTo_len xs ys k; rw [HP.out] at this; exact this
    have HOS := Lib.hid hos
    clear hos
    by_cases hlt : k < xs.length
    · obtain ⟨b, off, rfl, _, c1, _⟩ := ints_at HA.out hlt
      replace c1 := HX.out.cell c1 (fun h => h)
      obtain ⟨x0, x1⟩ := DX.out k hlt
      by_cases hlt' : k < ys.length
      · obtain ⟨b', off', rfl, _, c2, _⟩ := ints_at HB.out hlt'
        replace c2 := HX.out.cell c2 (fun h => h)
        obtain ⟨y0, y1⟩ := DY.out k hlt'
        go_wp2_with (at_builtin; refine wpl_append1 kU Nat.one_pos rfl (.tmp 42) (.tmp 45) 48 rfl w.heap.size 101 _ 4 Tryz.underlying48 info_u32 rfl O _ rfl os hown rfl ((rdI xs k + q + rdI ys k) % 1000000000) [_] ⟨rfl, wf_u (by omega) (by omega)⟩ (HO.out.ext HX.out) (by omega) (by rw [HOS.out]; omega) HX.out.size ?_; intro v2 w2 hO2 hE2 hat2)
        have HX2 := Lib.hid (HX.out.then hE2 (fun i hi h => by have := (hown.base h).1; omega))
        clear hE2 hat2
        exact ⟨⟨k + 1, _, _, by omega, by go_num, rfl, by omega, by omega, Lib.hid (plusTo_both HP.out hlt'), hO2, HX2⟩, by simp [intOf]; omega⟩
      · go_wp2_with (at_builtin; refine wpl_append1 kU Nat.one_pos rfl (.tmp 42) (.tmp 45) 48 rfl w.heap.size 101 _ 4 Tryz.underlying48 info_u32 rfl O _ rfl os hown rfl ((rdI xs k + q) % 1000000000) [_] ⟨rfl, wf_u (by omega) (by omega)⟩ (HO.out.ext HX.out) (by omega) (by rw [HOS.out]; omega) HX.out.size ?_; intro v2 w2 hO2 hE2 hat2)
        have HX2 := Lib.hid (HX.out.then hE2 (fun i hi h => by have := (hown.base h).1; omega))
        clear hE2 hat2
        exact ⟨⟨k + 1, _, _, by omega, by go_num, rfl, by omega, by omega, Lib.hid (plusTo_one HP.out hlt'), hO2, HX2⟩, by simp [intOf]; omega⟩
    · have hkn : k = xs.length := by omega
      have HP' := Lib.hid (hkn ▸ HP.out)
      clear hkn
      go_wp2_with (at_builtin; refine wpl_append1 kU Nat.one_pos rfl (.tmp 48) (.tmp 50) 48 rfl w.heap.size 101 _ 4 Tryz.underlying48 info_u32 rfl O _ rfl os hown rfl q [_] ⟨rfl, wf_u (by omega) (by omega)⟩ (HO.out.ext HX.out) (by omega) (by rw [HOS.out]; omega) HX.out.size ?_; intro v2 w2 hO2 hE2 hat2)
      go_ret
      rw [plus_loop_end HP'.out] at hO2
      exact ⟨_, rfl, hO2, HX.out.then hE2 (fun i hi h => by have := (hown.base h).1; omega)⟩
set_option maxRecDepth 100000 in
set_option maxHeartbeats 1000000 in
theorem plus_swap (va vb : Value) (xs ys : List Int) (w : World) (O : Nat → Prop) (ha : kDigs.one w O xs va) (hb : kDigs.one w O ys vb) (hO : OldO O w) (dx : DigR xs) (dy : DigR ys) (lx : xs.length ≤ 100000000) (hge : ys.length < xs.length) :
    Calls Tryz.prog 87 #[vb, va] w fun e w' => ∃ v, e = .returned v ∧ Own w' w.heap.size 101 kU O v (plusE xs ys) ∧ Ext NoB w w' := by
  obtain ⟨A, c, rfl, hl, hm, hr⟩ := Kd.one_slice ha
  obtain ⟨B, d, rfl, hl', hm', hr'⟩ := Kd.one_slice hb
  have HA := Lib.hid hr
  have HB := Lib.hid hr'
  have HO := Lib.hid hO
  have DX := Lib.hid dx
  have DY := Lib.hid dy
  clear hr hr' ha hb hO dx dy hm hm'
  go_enter Tryz.func87, Tryz.ntmps87
  go_wp2_with (at_make; refine wpl_make0 kU rfl (.const (.int .i64 0)) (.tmp 18) 48 rfl w.heap.size 101 _ 4 Tryz.underlying48 info_u32 O .i64 .i64 ((xs.length : Int) + 1) (xs.length + 1) rfl rfl (by omega) (by omega) (by omega) (Nat.le_refl _) ?_; intro v1 w1 hv1 hO1 hE1)
  have HE1 := Lib.hid hE1
  clear hE1
  go_loopw [5, 6, 22] (fun out cc i wr => ∃ (k : Nat) (q : Int) (os : List Int), k ≤ xs.length ∧ i = .int .i64 k ∧ cc = .int .u32 q ∧ 0 ≤ q ∧ q ≤ 1 ∧ Hid (plusTo xs ys k = (os, q)) ∧ Own wr w.heap.size 101 kU O out os ∧ Hid (Ext NoB w wr)) (fun _ _ i _ => xs.length - (intOf i).toNat)
  case atStart => exact ⟨0, 0, [], by omega, rfl, rfl, by omega, by omega, Lib.hid rfl, hO1, HE1⟩
  case round =>
    obtain ⟨k, q, os, hk, rfl, rfl, hq0, hq1, HP, hown, HX⟩ := hrel
    clear hO1 hv1 HE1
    have hos : os.length = k := by have := plusTo_len xs ys k; rw [HP.out] at this; exact this
    have HOS := Lib.hid hos
    clear hos
    by_cases hlt : k < xs.length
    · obtain ⟨b, off, rfl, _, c1, _⟩ := ints_at HA.out hlt
      replace c1 := HX.out.cell c1 (fun h => h)
      obtain ⟨x0, x1⟩ := DX.out k hlt
      by_cases hlt' : k < ys.length
      · obtain ⟨b', off', rfl, _, c2, _⟩ := ints_at HB.out hlt'
        replace c2 := HX.out.cell c2 (fun h => h)
        obtain ⟨y0, y1⟩ := DY.out k hlt'
        go_wp2_with (at_builtin; refine wpl_append1 kU Nat.one_pos rfl (.tmp 42) (.tmp 45) 48 rfl w.heap.size 101 _ 4 Tryz.underlying48 info_u32 rfl O _ rfl os hown rfl ((rdI xs k + q + rdI ys k) % 1000000000) [_] ⟨rfl, wf_u (by omega) (by omega)⟩ (HO.out.ext HX.out) (by omega) (by rw [HOS.out]; omega) HX.out.size ?_; intro v2 w2 hO2 hE2 hat2)
        have HX2 := Lib.hid (HX.out.then hE2 (fun i hi h => by have := (hown.base h).1; omega))
        clear hE2 hat2
        exact ⟨⟨k + 1, _, _, by omega, by go_num, rfl, by omega, by omega, Lib.hid (plusTo_both HP.out hlt'), hO2, HX2⟩, by simp [intOf]; omega⟩
      · go_wp2_with (at_builtin; refine wpl_append1 kU Nat.one_pos rfl (.tmp 42) (.tmp 45) 48 rfl w.heap.size 101 _ 4 Tryz.underlying48 info_u32 rfl O _ rfl os hown rfl ((rdI xs k + q) % 1000000000) [_] ⟨rfl, wf_u (by omega) (by omega)⟩ (HO.out.ext HX.out) (by omega) (by rw [HOS.out]; omega) HX.out.size ?_; intro v2 w2 hO2 hE2 hat2)
        have HX2 := Lib.hid (HX.out.then hE2 (fun i hi h => by have := (hown.base h).1; omega))
        clear hE2 hat2
        exact ⟨⟨k + 1, _, _, by omega, by go_num, rfl, by omega, by omega, Lib.hid (plusTo_one HP.out hlt'), hO2, HX2⟩, by simp [intOf]; omega⟩
    · have hkn : k = xs.length := by omega
      have HP' := Lib.hid (hkn ▸ HP.out)
      clear hkn
      go_wp2_with (at_builtin; refine wpl_append1 kU Nat.one_pos rfl (.tmp 48) (.tmp 50) 48 rfl w.heap.size 101 _ 4 Tryz.underlying48 info_u32 rfl O _ rfl os hown rfl q [_] ⟨rfl, wf_u (by omega) (by omega)⟩ (HO.out.ext HX.out) (by omega) (by rw [HOS.out]; omega) HX.out.size ?_; intro v2 w2 hO2 hE2 hat2)
      go_ret
      rw [plus_loop_end HP'.out] at hO2
      exact ⟨_, rfl, hO2, HX.out.then hE2 (fun i hi h => by have := (hown.base h).1; omega)⟩

theorem c_plus (va vb : Value) (xs ys : List Int) (w : World) (O : Nat → Prop) (ha : kDigs.one w O xs va) (hb : kDigs.one w O ys vb) (hO : OldO O w) (dx : DigR xs) (dy : DigR ys) (lx : xs.length ≤ 100000000) (ly : ys.length ≤ 100000000) :
    Calls Tryz.prog 87 #[va, vb] w fun e w' => ∃ v, e = .returned v ∧ Own w' w.heap.size 101 kU O v (plusD xs ys) ∧ Ext NoB w w' := by
  unfold plusD
  split
  · rename_i h
    exact plus_swap vb va ys xs w O hb ha hO dy dx ly h
  · rename_i h
    exact plus_core va vb xs ys w O ha hb hO dx dy lx (by omega)

def minusTo (xs ys : List Int) : Nat → List Int × Int
  | 0 => ([], 0)
  | k + 1 =>
    let n := rdI xs k - (minusTo xs ys k).2 - (if k < ys.length then rdI ys k else 0)
    ((minusTo xs ys k).1 ++ [if n < 0 then n + 1000000000 else n], if n < 0 then 1 else 0)
def minusD (xs ys : List Int) : List Int := (minusTo xs ys xs.length).1
theorem minusTo_len (xs ys : List Int) : ∀ k, (minusTo xs ys k).1.length = k
  | 0 => rfl
  | k + 1 => by rw [minusTo, List.length_append, minusTo_len xs ys k]; rfl
theorem minusTo_step {xs ys os : List Int} {k : Nat} {c n : Int} (h : minusTo xs ys k = (os, c)) (hn : n = rdI xs k - c - (if k < ys.length then rdI ys k else 0)) :
    minusTo xs ys (k + 1) = (os ++ [if n < 0 then n + 1000000000 else n], if n < 0 then 1 else 0) := by
  rw [minusTo, h, hn]
theorem minusTo_neg {xs ys os : List Int} {k : Nat} {c n : Int} (h : minusTo xs ys k = (os, c)) (hn : n = rdI xs k - c - (if k < ys.length then rdI ys k else 0)) (h0 : n < 0) : minusTo xs ys (k + 1) = (os ++ [n + 1000000000], 1) := by
  rw [minusTo_step h hn, if_pos h0, if_pos h0]
theorem minusTo_pos {xs ys os : List Int} {k : Nat} {c n : Int} (h : minusTo xs ys k = (os, c)) (hn : n = rdI xs k - c - (if k < ys.length then rdI ys k else 0)) (h0 : ¬ n < 0) : minusTo xs ys (k + 1) = (os ++ [n], 0) := by
  rw [minusTo_step h hn, if_neg h0, if_neg h0]

set_option maxRecDepth 100000 in
set_option maxHeartbeats 2000000 in
theorem c_minus (va vb : Value) (xs ys : List Int) (w : World) (O : Nat → Prop) (ha : kDigs.one w O xs va) (hb : kDigs.one w O ys vb) (hO : OldO O w) (dx : DigR xs) (dy : DigR ys) (lx : xs.length ≤ 100000000) :
    Calls Tryz.prog 88 #[va, vb] w fun e w' => ∃ v, e = .returned v ∧ Own w' w.heap.size 101 kU O v (minusD xs ys) ∧ Ext NoB w w' := by
  obtain ⟨A, c, rfl, hl, hm, hr⟩ := Kd.one_slice ha
  obtain ⟨B, d, rfl, hl', hm', hr'⟩ := Kd.one_slice hb
  have HA := Lib.hid hr
  have HB := Lib.hid hr'
  have HO := Lib.hid hO
  have DX := Lib.hid dx
  have DY := Lib.hid dy
  unfold maxLen at hm'
  clear hr hr' ha hb hO dx dy hm
  go_enter Tryz.func88, Tryz.ntmps88
  go_wp2_with (at_make; refine wpl_make0 kU rfl (.const (.int .i64 0)) (.tmp 11) 48 rfl w.heap.size 101 _ 4 Tryz.underlying48 info_u32 O .i64 .i64 (xs.length : Int) xs.length rfl rfl rfl (by omega) (by omega) (Nat.le_refl _) ?_; intro v1 w1 hv1 hO1 hE1)
  have HE1 := Lib.hid hE1
  clear hE1
  go_loopw [5, 6, 15] (fun out cc i wr => ∃ (k : Nat) (q : Int) (os : List Int), k ≤ xs.length ∧ i = .int .i64 k ∧ cc = .int .i64 q ∧ 0 ≤ q ∧ q ≤ 1 ∧ Hid (minusTo xs ys k = (os, q)) ∧ Own wr w.heap.size 101 kU O out os ∧ Hid (Ext NoB w wr)) (fun _ _ i _ => xs.length - (intOf i).toNat)
  case atStart => exact ⟨0, 0, [], by omega, rfl, rfl, by omega, by omega, Lib.hid rfl, hO1, HE1⟩
  case round =>
    obtain ⟨k, q, os, hk, rfl, rfl, hq0, hq1, HP, hown, HX⟩ := hrel
    clear hO1 hv1 HE1
    have hos : os.length = k := by have := minusTo_len xs ys k; rw [HP.out] at this; exact this
    have HOS := Lib.hid hos
    clear hos
    by_cases hlt : k < xs.length
    · obtain ⟨b, off, rfl, _, c1, _⟩ := ints_at HA.out hlt
      replace c1 := HX.out.cell c1 (fun h => h)
      obtain ⟨x0, x1⟩ := DX.out k hlt
      by_cases hlt' : k < ys.length
      · obtain ⟨b', off', rfl, _, c2, _⟩ := ints_at HB.out hlt'
        replace c2 := HX.out.cell c2 (fun h => h)
        obtain ⟨y0, y1⟩ := DY.out k hlt'
        by_cases hneg : rdI xs k - q - rdI ys k < 0
        · have HM := Lib.hid (minusTo_neg HP.out (n := rdI xs k - q - rdI ys k) (by rw [if_pos hlt']) hneg)
          go_wp2_with (at_builtin; refine wpl_append1 kU Nat.one_pos rfl (.tmp 39) (.tmp 42) 48 rfl w.heap.size 101 _ 4 Tryz.underlying48 info_u32 rfl O _ rfl os hown rfl (rdI xs k - q - rdI ys k + 1000000000) [_] ⟨rfl, wf_u (by omega) (by omega)⟩ (HO.out.ext HX.out) (by omega) (by rw [HOS.out]; omega) HX.out.size ?_; intro v2 w2 hO2 hE2 hat2)
          have HX2 := Lib.hid (HX.out.then hE2 (fun i hi h => by have := (hown.base h).1; omega))
          clear hE2 hat2
          exact ⟨⟨k + 1, _, _, by omega, by go_num, rfl, by omega, by omega, HM, hO2, HX2⟩, by simp [intOf]; omega⟩
        · have HM := Lib.hid (minusTo_pos HP.out (n := rdI xs k - q - rdI ys k) (by rw [if_pos hlt']) hneg)
          go_wp2_with (at_builtin; refine wpl_append1 kU Nat.one_pos rfl (.tmp 39) (.tmp 42) 48 rfl w.heap.size 101 _ 4 Tryz.underlying48 info_u32 rfl O _ rfl os hown rfl (rdI xs k - q - rdI ys k) [_] ⟨rfl, wf_u (by omega) (by omega)⟩ (HO.out.ext HX.out) (by omega) (by rw [HOS.out]; omega) HX.out.size ?_; intro v2 w2 hO2 hE2 hat2)
          have HX2 := Lib.hid (HX.out.then hE2 (fun i hi h => by have := (hown.base h).1; omega))
          clear hE2 hat2
          exact ⟨⟨k + 1, _, _, by omega, by go_num, rfl, by omega, by omega, HM, hO2, HX2⟩, by simp [intOf]; omega⟩
      · by_cases hneg : rdI xs k - q < 0
        · have HM := Lib.hid (minusTo_neg HP.out (n := rdI xs k - q) (by rw [if_neg hlt', Int.sub_zero]) hneg)
          go_wp2_with (at_builtin; refine wpl_append1 kU Nat.one_pos rfl (.tmp 39) (.tmp 42) 48 rfl w.heap.size 101 _ 4 Tryz.underlying48 info_u32 rfl O _ rfl os hown rfl (rdI xs k - q + 1000000000) [_] ⟨rfl, wf_u (by omega) (by omega)⟩ (HO.out.ext HX.out) (by omega) (by rw [HOS.out]; omega) HX.out.size ?_; intro v2 w2 hO2 hE2 hat2)
          have HX2 := Lib.hid (HX.out.then hE2 (fun i hi h => by have := (hown.base h).1; omega))
          clear hE2 hat2
          exact ⟨⟨k + 1, _, _, by omega, by go_num, rfl, by omega, by omega, HM, hO2, HX2⟩, by simp [intOf]; omega⟩
        · have HM := Lib.hid (minusTo_pos HP.out (n := rdI xs k - q) (by rw [if_neg hlt', Int.sub_zero]) hneg)
          go_wp2_with (at_builtin; refine wpl_append1 kU Nat.one_pos rfl (.tmp 39) (.tmp 42) 48 rfl w.heap.size 101 _ 4 Tryz.underlying48 info_u32 rfl O _ rfl os hown rfl (rdI xs k - q) [_] ⟨rfl, wf_u (by omega) (by omega)⟩ (HO.out.ext HX.out) (by omega) (by rw [HOS.out]; omega) HX.out.size ?_; intro v2 w2 hO2 hE2 hat2)
          have HX2 := Lib.hid (HX.out.then hE2 (fun i hi h => by have := (hown.base h).1; omega))
          clear hE2 hat2
          exact ⟨⟨k + 1, _, _, by omega, by go_num, rfl, by omega, by omega, HM, hO2, HX2⟩, by simp [intOf]; omega⟩
    · have hkn : k = xs.length := by omega
      have HP' := Lib.hid (hkn ▸ HP.out)
      clear hkn
      go_wp2_with fail
      go_ret
      have he : os = minusD xs ys := by rw [minusD, HP'.out]
      rw [he] at hown
      exact ⟨_, rfl, hown, HX.out⟩
end Go.Proofs.YtfpmapbimhdafaaGreatDoor

namespace Go.Proofs.YtfpmapbimhdafaaGreatDoor
open Go.RowKit
set_option linter.unusedVariables false
set_option linter.unusedSimpArgs false

set_option maxRecDepth 100000 in
set_option maxHeartbeats 400000 in
theorem c_right (va : Value) (x : ZInt) (w : World) (O : Nat → Prop) (ha : kZ.agg w O x va) (hx : zRight x = true) :
    Calls Tryz.prog 42 #[va] w fun e w' => e = .returned va ∧ Ext NoB w w' := by
  have ha0 := ha
  obtain ⟨A, c, rfl, hl, hm, hr⟩ := z_open ha
  have HA := Lib.hid ha0
  have HX := Lib.hid hx
  clear hr ha hx ha0 hm hl
  go_enter Tryz.func42, Tryz.ntmps42
  go_wp2_with fail
  refine (c_zRight _ x _ O (kZ.aggExt HA.out (((Ext.refl _ _).alloc _).alloc _))).mono ?_
  rintro e w1 ⟨rfl, he⟩
  rw [HX.out]
  have c0 : w1.cell? ⟨w.heap.size, 0, none⟩ = some (.bool x.neg) := he.cell (by go_simp) (fun h => h)
  have c1 : w1.cell? ⟨w.heap.size, 1, none⟩ = some (.slice A x.digs.length c) := he.cell (by go_simp) (fun h => h)
  have d0 : w1.cell? ⟨w.heap.size + 1, 0, none⟩ = some (.bool false) := he.cell (by go_simp) (fun h => h)
  have d1 : w1.cell? ⟨w.heap.size + 1, 1, none⟩ = some (.slice none 0 0) := he.cell (by go_simp) (fun h => h)
  have f0 : w1.frozen? ⟨w.heap.size + 1, 0, none⟩ = false := (he.frozen (by simp) (fun h => h)).trans (by go_simp)
  have f1 : w1.frozen? ⟨w.heap.size + 1, 1, none⟩ = false := (he.frozen (by simp) (fun h => h)).trans (by go_simp)
  have HE := Lib.hid ((((Ext.refl NoB w).alloc _).alloc _).trans he)
  clear he
  go_wp2_with fail
  refine bodyPost_ret (v := .agg #[.bool x.neg, .slice A x.digs.length c]) (by simp [results, Tryz.results42, go_sem, d0, d1, c0, c1, f0, f1]) rfl ⟨rfl, ?_⟩
  exact (HE.out.setNew (Nat.le_succ _) _).setNew (Nat.le_succ _) _

/-- Integers held against one another. -/
def cmpZ (x y : ZInt) : Int := if x.neg then (if y.neg then cmpDigs y.digs x.digs else -1) else (if y.neg then 1 else cmpDigs x.digs y.digs)

theorem setIfInBounds_same {c : Array Value} {i : Nat} {v : Value} (h : c[i]? = some v) : c.setIfInBounds i v = c := by
  apply Array.ext_getElem?
  intro j
  rw [Array.getElem?_setIfInBounds]
  split
  · rename_i hij
    subst hij
    split
    · exact h.symm
    · rename_i hlt
      rw [Array.getElem?_eq_none (by omega)] at h
      cases h
  · rfl
theorem setCell_same {w : World} {a : Addr} {v : Value} (h : w.cell? a = some v) : w.setCell a v = w := by
  have hh : (w.setCell a v).heap = w.heap := by
    apply Array.ext_getElem?
    intro i
    simp only [World.setCell, Array.getElem?_modify]
    split
    · rename_i hi
      subst hi
      unfold World.cell? at h
      split at h
      · rename_i c e f hc
        rw [hc]
        split at h
        · cases h
        · rename_i hs
          simp only [Option.map_some, hs, Bool.false_eq_true, if_false, setIfInBounds_same h]
      · cases h
    · rfl
  calc w.setCell a v = { w with heap := (w.setCell a v).heap } := rfl
    _ = w := by rw [hh]

/-- Two boxes of integers' values, kept. -/
theorem box2_ext {w W W' : World} {p q r s : Addr} {v0 v1 v2 v3 : Value}
    (h : W.cell? p = some v0 ∧ W.cell? q = some v1 ∧ W.cell? r = some v2 ∧ W.cell? s = some v3 ∧ W.frozen? p = false ∧ W.frozen? q = false ∧ W.frozen? r = false ∧ W.frozen? s = false ∧ Hid (Ext NoB w W)) (he : Ext NoB W W') :
    W'.cell? p = some v0 ∧ W'.cell? q = some v1 ∧ W'.cell? r = some v2 ∧ W'.cell? s = some v3 ∧ W'.frozen? p = false ∧ W'.frozen? q = false ∧ W'.frozen? r = false ∧ W'.frozen? s = false ∧ Hid (Ext NoB w W') := by
  obtain ⟨h1, h2, h3, h4, h5, h6, h7, h8, h9⟩ := h
  have no : ∀ b, ¬ NoB b := fun _ h => h
  exact ⟨he.cell h1 (no _), he.cell h2 (no _), he.cell h3 (no _), he.cell h4 (no _), (he.frozen (cell_lt h1) (no _)).trans h5, (he.frozen (cell_lt h2) (no _)).trans h6, (he.frozen (cell_lt h3) (no _)).trans h7, (he.frozen (cell_lt h4) (no _)).trans h8, h9.out.trans he⟩
theorem box2_start (w : World) (a b c d : Value) (t u : TypeId) (n : Nat) :
    let W := ((w.alloc (Obj.cells #[a, b] t)).alloc (Obj.cells #[c, d] u)).drew
    W.cell? ⟨w.heap.size, 0, none⟩ = some a ∧ W.cell? ⟨w.heap.size, 1, none⟩ = some b ∧ W.cell? ⟨w.heap.size + 1, 0, none⟩ = some c ∧ W.cell? ⟨w.heap.size + 1, 1, none⟩ = some d ∧
      W.frozen? ⟨w.heap.size, 0, none⟩ = false ∧ W.frozen? ⟨w.heap.size, 1, none⟩ = false ∧ W.frozen? ⟨w.heap.size + 1, 0, none⟩ = false ∧ W.frozen? ⟨w.heap.size + 1, 1, none⟩ = false ∧ Hid (Ext NoB w W) := by
  refine ⟨by go_simp, by go_simp, by go_simp, by go_simp, by go_simp, by go_simp, by go_simp, by go_simp, (((Ext.refl _ _).alloc _).alloc _).drew⟩

theorem z_digs {w : World} {O : Nat → Prop} {x : ZInt} {b v : Value} (h : kZ.agg w O x (.agg #[b, v])) : b = .bool x.neg ∧ kDigs.one w O x.digs v := by
  obtain ⟨cs, h1, h2⟩ := h
  obtain ⟨u, rfl, h3⟩ := kZ_iff.1 h2
  simp at h1
  obtain ⟨rfl, rfl⟩ := h1
  exact ⟨rfl, h3⟩

section
attribute [local go_sem] setCell_same
set_option maxRecDepth 100000 in
set_option maxHeartbeats 1000000 in
theorem c_Cmp (va vb : Value) (x y : ZInt) (w : World) (O : Nat → Prop) (ha : kZ.agg w O x va) (hb : kZ.agg w O y vb) (hx : zRight x = true) (hy : zRight y = true) :
    Calls Tryz.prog 22 #[va, vb] w fun e w' => e = .returned (.int .i64 (cmpZ x y)) ∧ Ext NoB w w' := by
  have ha0 := ha
  have hb0 := hb
  obtain ⟨A, c, rfl, hl, hm, hr⟩ := z_open ha
  obtain ⟨B, d, rfl, hl', hm', hr'⟩ := z_open hb
  have HA := Lib.hid ha0
  have HB := Lib.hid hb0
  have HX := Lib.hid hx
  have HY := Lib.hid hy
  clear hr hr' ha hb hx hy ha0 hb0 hm hl hm' hl'
  have ST := Lib.hid (box2_start w (.bool x.neg) (.slice A x.digs.length c) (.bool y.neg) (.slice B y.digs.length d) 50 50 0)
  go_enter Tryz.func22, Tryz.ntmps22
  go_wp2_with fail
  go_region_held3 (fun W => W.cell? ⟨w.heap.size, 0, none⟩ = some (.bool x.neg) ∧ W.cell? ⟨w.heap.size, 1, none⟩ = some (.slice A x.digs.length c) ∧ W.cell? ⟨w.heap.size + 1, 0, none⟩ = some (.bool y.neg) ∧ W.cell? ⟨w.heap.size + 1, 1, none⟩ = some (.slice B y.digs.length d)
      ∧ W.frozen? ⟨w.heap.size, 0, none⟩ = false ∧ W.frozen? ⟨w.heap.size, 1, none⟩ = false ∧ W.frozen? ⟨w.heap.size + 1, 0, none⟩ = false ∧ W.frozen? ⟨w.heap.size + 1, 1, none⟩ = false ∧ Hid (Ext NoB w W))
    (first | exact ST.out | assumption | (refine box2_ext ?_ (by assumption) <;> assumption))
    (first
      | (go_at_call 42; with_reducible refine (c_right _ x _ O (kZ.aggExt HA.out (by obtain ⟨_, _, _, _, _, _, _, _, h⟩ := (by assumption : _ ∧ _); exact h.out.no)) HX.out).mono ?_; rintro e w1 ⟨rfl, hq⟩)
      | (go_at_call 42; with_reducible refine (c_right _ y _ O (kZ.aggExt HB.out (by obtain ⟨_, _, _, _, _, _, _, _, h⟩ := (by assumption : _ ∧ _); exact h.out.no)) HY.out).mono ?_; rintro e w1 ⟨rfl, hq⟩))
  all_goals
    have HB2 := (by assumption : _ ∧ _)
    obtain ⟨c0, c1, d0, d1, f0, f1, g0, g1, HE⟩ := HB2
    obtain ⟨s, xs⟩ := x
    obtain ⟨t, ys⟩ := y
    simp only at *
    cases s <;> cases t
    · go_wp2_with fail
      refine (c_compare _ _ xs ys _ O (kDigs.oneExt (z_digs HA.out).2 HE.out.no) (kDigs.oneExt (z_digs HB.out).2 HE.out.no)).mono ?_
      rintro e w3 ⟨rfl, hd⟩
      have HE3 := Lib.hid (HE.out.trans hd.ext)
      clear hd
      go_wp2_with fail
      go_ret
      exact ⟨rfl, HE3.out⟩
    · go_wp2_with fail
      go_ret
      exact ⟨rfl, HE.out⟩
    · go_wp2_with fail
      go_ret
      exact ⟨rfl, HE.out⟩
    · go_wp2_with fail
      refine (c_compare _ _ ys xs _ O (kDigs.oneExt (z_digs HB.out).2 HE.out.no) (kDigs.oneExt (z_digs HA.out).2 HE.out.no)).mono ?_
      rintro e w3 ⟨rfl, hd⟩
      have HE3 := Lib.hid (HE.out.trans hd.ext)
      clear hd
      go_wp2_with fail
      go_ret
      exact ⟨rfl, HE3.out⟩
end
end Go.Proofs.YtfpmapbimhdafaaGreatDoor

namespace Go.Proofs.YtfpmapbimhdafaaGreatDoor
open Go.RowKit
set_option linter.unusedVariables false
set_option linter.unusedSimpArgs false

/-- A sum. -/
def addZ (x y : ZInt) : ZInt := if x.neg = y.neg then signZ x.neg (plusD x.digs y.digs) else if cmpDigs x.digs y.digs < 0 then signZ y.neg (minusD y.digs x.digs) else signZ x.neg (minusD x.digs y.digs)

theorem zRight_digs {x : ZInt} (h : zRight x = true) (hr : ∀ k, k < x.digs.length → (Lit.int .u32 (rdI x.digs k)).wf = true) : DigR x.digs := by
  intro k hk
  refine ⟨(bounds_u32 (hr k hk)).1, ?_⟩
  have hne : x.digs.length ≠ 0 := by omega
  rw [zRight, if_neg hne, Bool.and_eq_true, List.all_eq_true] at h
  have := h.1 x.digs[k] (List.getElem_mem hk)
  rw [rdI_eq hk]
  simpa using this
theorem z_digR {w : World} {O : Nat → Prop} {x : ZInt} {v : Value} (h : kZ.agg w O x v) (hx : zRight x = true) : DigR x.digs := by
  obtain ⟨A, c, _, _, _, hr⟩ := z_open h
  exact zRight_digs hx fun k hk => (ints_at hr hk).choose_spec.choose_spec.2.2.2

/-- Three boxes of two cells. -/
def Box3 (w : World) (v0 v1 v2 v3 v4 v5 : Value) (W : World) : Prop :=
  W.cell? ⟨w.heap.size, 0, none⟩ = some v0 ∧ W.cell? ⟨w.heap.size, 1, none⟩ = some v1 ∧ W.cell? ⟨w.heap.size + 1, 0, none⟩ = some v2 ∧ W.cell? ⟨w.heap.size + 1, 1, none⟩ = some v3 ∧ W.cell? ⟨w.heap.size + 1 + 1, 0, none⟩ = some v4 ∧ W.cell? ⟨w.heap.size + 1 + 1, 1, none⟩ = some v5 ∧
  W.frozen? ⟨w.heap.size, 0, none⟩ = false ∧ W.frozen? ⟨w.heap.size, 1, none⟩ = false ∧ W.frozen? ⟨w.heap.size + 1, 0, none⟩ = false ∧ W.frozen? ⟨w.heap.size + 1, 1, none⟩ = false ∧ W.frozen? ⟨w.heap.size + 1 + 1, 0, none⟩ = false ∧ W.frozen? ⟨w.heap.size + 1 + 1, 1, none⟩ = false ∧ Hid (Ext NoB w W)
theorem Box3.ext {w W W' : World} {v0 v1 v2 v3 v4 v5 : Value} (h : Box3 w v0 v1 v2 v3 v4 v5 W) (he : Ext NoB W W') : Box3 w v0 v1 v2 v3 v4 v5 W' := by
  obtain ⟨h0, h1, h2, h3, h4, h5, f0, f1, f2, f3, f4, f5, hE⟩ := h
  have no : ∀ b, ¬ NoB b := fun _ h => h
  exact ⟨he.cell h0 (no _), he.cell h1 (no _), he.cell h2 (no _), he.cell h3 (no _), he.cell h4 (no _), he.cell h5 (no _), (he.frozen (cell_lt h0) (no _)).trans f0, (he.frozen (cell_lt h1) (no _)).trans f1,
    (he.frozen (cell_lt h2) (no _)).trans f2, (he.frozen (cell_lt h3) (no _)).trans f3, (he.frozen (cell_lt h4) (no _)).trans f4, (he.frozen (cell_lt h5) (no _)).trans f5, hE.out.trans he⟩
theorem Box3.drew {w W : World} {v0 v1 v2 v3 v4 v5 : Value} (h : Box3 w v0 v1 v2 v3 v4 v5 W) : Box3 w v0 v1 v2 v3 v4 v5 W.drew := h.ext (Ext.refl _ _).drew
theorem Box3.start (w : World) (v0 v1 v2 v3 v4 v5 : Value) (t u s : TypeId) : Box3 w v0 v1 v2 v3 v4 v5 (((w.alloc (Obj.cells #[v0, v1] t)).alloc (Obj.cells #[v2, v3] u)).alloc (Obj.cells #[v4, v5] s)) := by
  refine ⟨by go_simp, by go_simp, by go_simp, by go_simp, by go_simp, by go_simp, by go_simp, by go_simp, by go_simp, by go_simp, by go_simp, by go_simp, (((Ext.refl _ _).alloc _).alloc _).alloc _⟩
theorem Box3.ofExt {w W : World} {v0 v1 v2 v3 v4 v5 : Value} (h : Box3 w v0 v1 v2 v3 v4 v5 W) : Ext NoB w W := h.2.2.2.2.2.2.2.2.2.2.2.2.out
theorem Box3.size {w W : World} {v0 v1 v2 v3 v4 v5 : Value} (h : Box3 w v0 v1 v2 v3 v4 v5 W) : w.heap.size + 1 + 1 < W.heap.size := cell_lt h.2.2.2.2.1

theorem Ext.set2 (O : Nat → Prop) (g : Nat) (W : World) (u v : Value) : Ext (Plus O g) W ((W.setCell ⟨g, 0, none⟩ u).setCell ⟨g, 1, none⟩ v) :=
  ((Ext.refl _ _).setO (p := ⟨g, 0, none⟩) (Plus.here _ _) _).setO (p := ⟨g, 1, none⟩) (Plus.here _ _) _
theorem Box3.swap {w W : World} {v0 v1 v2 v3 v4 v5 : Value} (h : Box3 w v0 v1 v2 v3 v4 v5 W) (u0 u1 u2 u3 : Value) :
    Box3 w u0 u1 u2 u3 v4 v5 ((((W.setCell ⟨w.heap.size, 0, none⟩ u0).setCell ⟨w.heap.size, 1, none⟩ u1).setCell ⟨w.heap.size + 1, 0, none⟩ u2).setCell ⟨w.heap.size + 1, 1, none⟩ u3) := by
  obtain ⟨h0, h1, h2, h3, h4, h5, f0, f1, f2, f3, f4, f5, hE⟩ := h
  have hE' : Hid (Ext NoB w ((((W.setCell ⟨w.heap.size, 0, none⟩ u0).setCell ⟨w.heap.size, 1, none⟩ u1).setCell ⟨w.heap.size + 1, 0, none⟩ u2).setCell ⟨w.heap.size + 1, 1, none⟩ u3)) :=
    (((hE.out.setNew (Nat.le_refl _) _).setNew (Nat.le_refl _) _).setNew (Nat.le_succ _) _).setNew (Nat.le_succ _) _
  clear hE
  exact ⟨by go_simp, by go_simp, by go_simp, by go_simp, by go_simp, by go_simp, by go_simp, by go_simp, by go_simp, by go_simp, by go_simp, by go_simp, hE'⟩
theorem z_form {w : World} {O : Nat → Prop} {x : ZInt} {v : Value} (h : kZ.agg w O x v) : ∃ A c, v = .agg #[.bool x.neg, .slice A x.digs.length c] := by
  obtain ⟨A, c, h, _⟩ := z_open h
  exact ⟨A, c, h⟩
/-- Two boxes of two cells, that are read alone. -/
def Box2R (w : World) (v0 v1 v2 v3 : Value) (W : World) : Prop :=
  W.cell? ⟨w.heap.size, 0, none⟩ = some v0 ∧ W.cell? ⟨w.heap.size, 1, none⟩ = some v1 ∧ W.cell? ⟨w.heap.size + 1, 0, none⟩ = some v2 ∧ W.cell? ⟨w.heap.size + 1, 1, none⟩ = some v3 ∧ Hid (Ext NoB w W)
theorem Box2R.ext {w W W' : World} {v0 v1 v2 v3 : Value} (h : Box2R w v0 v1 v2 v3 W) (he : Ext NoB W W') : Box2R w v0 v1 v2 v3 W' := by
  obtain ⟨h0, h1, h2, h3, hE⟩ := h
  have no : ∀ b, ¬ NoB b := fun _ h => h
  exact ⟨he.cell h0 (no _), he.cell h1 (no _), he.cell h2 (no _), he.cell h3 (no _), hE.out.trans he⟩
theorem Box2R.set {w W : World} {v0 v1 v2 v3 : Value} (h : Box2R w v0 v1 v2 v3 W) (k : Nat) (u : Value) : Box2R w v0 v1 v2 v3 (W.setCell ⟨w.heap.size + 1 + 1, k, none⟩ u) := by
  obtain ⟨h0, h1, h2, h3, hE⟩ := h
  refine ⟨?_, ?_, ?_, ?_, hE.out.setNew (show w.heap.size ≤ w.heap.size + 1 + 1 by omega) _⟩
  · rw [World.cell?_setCell_other _ _ _ _ (by intro e; injection e with e; omega)]; exact h0
  · rw [World.cell?_setCell_other _ _ _ _ (by intro e; injection e with e; omega)]; exact h1
  · rw [World.cell?_setCell_other _ _ _ _ (by intro e; injection e with e; omega)]; exact h2
  · rw [World.cell?_setCell_other _ _ _ _ (by intro e; injection e with e; omega)]; exact h3
theorem Box3.two {w W : World} {v0 v1 v2 v3 v4 v5 : Value} (h : Box3 w v0 v1 v2 v3 v4 v5 W) : Box2R w v0 v1 v2 v3 W := ⟨h.1, h.2.1, h.2.2.1, h.2.2.2.1, h.ofExt⟩
theorem Box3.res {w W : World} {v0 v1 v2 v3 v4 v5 : Value} (h : Box3 w v0 v1 v2 v3 v4 v5 W) :
    W.cell? ⟨w.heap.size + 1 + 1, 0, none⟩ = some v4 ∧ W.cell? ⟨w.heap.size + 1 + 1, 1, none⟩ = some v5 ∧ W.frozen? ⟨w.heap.size + 1 + 1, 0, none⟩ = false ∧ W.frozen? ⟨w.heap.size + 1 + 1, 1, none⟩ = false :=
  ⟨h.2.2.2.2.1, h.2.2.2.2.2.1, h.2.2.2.2.2.2.2.2.2.2.1, h.2.2.2.2.2.2.2.2.2.2.2.1⟩
theorem Box3.old {w W : World} {v0 v1 v2 v3 v4 v5 : Value} (h : Box3 w v0 v1 v2 v3 v4 v5 W) {O : Nat → Prop} (hO : OldO O w) : OldO (Plus O (w.heap.size + 1 + 1)) W := by
  rintro b (hb | rfl)
  · exact Nat.lt_of_lt_of_le (hO b hb) h.ofExt.size
  · exact h.size

section
attribute [local go_sem] setCell_same
set_option maxRecDepth 100000 in
set_option maxHeartbeats 2000000 in
theorem c_Add_ff (va vb : Value) (xs ys : List Int) (w : World) (O : Nat → Prop) (ha : kZ.agg w O ⟨false, xs⟩ va) (hb : kZ.agg w O ⟨false, ys⟩ vb) (hO : OldO O w) (hx : zRight ⟨false, xs⟩ = true) (hy : zRight ⟨false, ys⟩ = true) (lx : xs.length ≤ 100000000) (ly : ys.length ≤ 100000000) :
    Calls Tryz.prog 66 #[va, vb] w fun e w' => ∃ v, e = .returned v ∧ kZ.agg w' O (addZ ⟨false, xs⟩ ⟨false, ys⟩) v ∧ Ext NoB w w' := by
  have ha0 := ha
  have hb0 := hb
  have dx : DigR xs := z_digR ha hx
  have dy : DigR ys := z_digR hb hy
  obtain ⟨A, c, rfl, hl, hm, hr⟩ := z_open ha
  obtain ⟨B, d, rfl, hl', hm', hr'⟩ := z_open hb
  have HA := Lib.hid ha0
  have HB := Lib.hid hb0
  have HX := Lib.hid hx
  have HY := Lib.hid hy
  have DX := Lib.hid dx
  have DY := Lib.hid dy
  have HO := Lib.hid hO
  clear hr hr' ha hb hx hy ha0 hb0 hm hl hm' hl' dx dy hO
  have ST := Lib.hid (Box3.start w (.bool false) (.slice A xs.length c) (.bool false) (.slice B ys.length d) (.bool false) (.slice none 0 0) 50 50 50)
  go_enter Tryz.func66, Tryz.ntmps66
  go_wp2_with fail
  go_region_held3 (fun W => W.cell? ⟨w.heap.size, 0, none⟩ = some (.bool false) ∧ W.cell? ⟨w.heap.size, 1, none⟩ = some (.slice A xs.length c) ∧ W.cell? ⟨w.heap.size + 1, 0, none⟩ = some (.bool false) ∧ W.cell? ⟨w.heap.size + 1, 1, none⟩ = some (.slice B ys.length d) ∧ W.cell? ⟨w.heap.size + 1 + 1, 0, none⟩ = some (.bool false) ∧ W.cell? ⟨w.heap.size + 1 + 1, 1, none⟩ = some (.slice none 0 0)
      ∧ W.frozen? ⟨w.heap.size, 0, none⟩ = false ∧ W.frozen? ⟨w.heap.size, 1, none⟩ = false ∧ W.frozen? ⟨w.heap.size + 1, 0, none⟩ = false ∧ W.frozen? ⟨w.heap.size + 1, 1, none⟩ = false ∧ W.frozen? ⟨w.heap.size + 1 + 1, 0, none⟩ = false ∧ W.frozen? ⟨w.heap.size + 1 + 1, 1, none⟩ = false ∧ Hid (Ext NoB w W))
    (first | exact ST.out.drew | assumption | (refine Box3.ext ?_ (by assumption) <;> assumption))
    (first
      | (go_at_call 42; with_reducible refine (c_right _ ⟨false, xs⟩ _ O (kZ.aggExt HA.out (by obtain ⟨_, _, _, _, _, _, _, _, _, _, _, _, h⟩ := (by assumption : _ ∧ _); exact h.out.no)) HX.out).mono ?_; rintro e w1 ⟨rfl, hq⟩)
      | (go_at_call 42; with_reducible refine (c_right _ ⟨false, ys⟩ _ O (kZ.aggExt HB.out (by obtain ⟨_, _, _, _, _, _, _, _, _, _, _, _, h⟩ := (by assumption : _ ∧ _); exact h.out.no)) HY.out).mono ?_; rintro e w1 ⟨rfl, hq⟩))
  all_goals
    have HB3 := (by assumption : _ ∧ _)
    have H3 : Hid (Box3 w _ _ _ _ _ _ _) := HB3
    obtain ⟨c0, c1, d0, d1, e0, e1, f0, f1, g0, g1, i0, i1, HE⟩ := HB3
    have hz : Hid (addZ ⟨false, xs⟩ ⟨false, ys⟩ = signZ false (plusD xs ys)) := rfl
    go_wp2_with fail
    go_region_held3 (fun W => W.cell? ⟨w.heap.size, 0, none⟩ = some (.bool false) ∧ W.cell? ⟨w.heap.size, 1, none⟩ = some (.slice A xs.length c) ∧ W.cell? ⟨w.heap.size + 1, 0, none⟩ = some (.bool false) ∧ W.cell? ⟨w.heap.size + 1, 1, none⟩ = some (.slice B ys.length d) ∧ Hid (Ext NoB w W))
      (first | exact H3.out.drew.two | assumption | (refine Box2R.ext ?_ (by assumption) <;> assumption) | (refine Box2R.set (Box2R.set ?_ _ _) _ _; assumption))
      (first
        | (go_at_call 87; refine (c_plus _ _ xs ys _ (Plus O (w.heap.size + 1 + 1)) (kDigs.onePlus (z_digs HA.out).2 H3.out.drew.ofExt.no (by omega)) (kDigs.onePlus (z_digs HB.out).2 H3.out.drew.ofExt.no (by omega)) (H3.out.drew.old HO.out) DX.out DY.out lx ly).mono ?_; rintro e w3 ⟨v3, rfl, hown, hq3⟩)
        | (go_at_call 78; refine (c_signed _ v3 _ _ (Plus O (w.heap.size + 1 + 1)) (hown.slice (H3.out.drew.old HO.out))).mono ?_; rintro e w4 ⟨v4, rfl, hz4, hq4⟩; (obtain ⟨A4, c4, rfl⟩ := z_form hz4); (have HZ4 := Lib.hid hz4); clear hz4; (obtain ⟨r0, r1, r2, r3⟩ := ((H3.out.drew.ext hq3).ext hq4).res)))
    have HE4 := Lib.hid ((H3.out.drew.ext hq3).ext hq4).ofExt
    clear hq3 hq4 hown
    go_wp2_with fail
    refine bodyPost_ret (v := .agg #[.bool (signZ false (plusD xs ys)).neg, .slice A4 (signZ false (plusD xs ys)).digs.length c4]) (by simp [results, Tryz.results66, go_sem, r0, r1, r2, r3]) rfl ⟨_, rfl, ?_, (HE4.out.setNew (show w.heap.size ≤ w.heap.size + 1 + 1 by omega) _).setNew (show w.heap.size ≤ w.heap.size + 1 + 1 by omega) _⟩
    rw [hz.out]
    exact kZ.aggMinus HZ4.out (Ext.set2 _ _ _ _ _)
set_option maxRecDepth 100000 in
set_option maxHeartbeats 2000000 in
theorem c_Add_ft (va vb : Value) (xs ys : List Int) (w : World) (O : Nat → Prop) (ha : kZ.agg w O ⟨false, xs⟩ va) (hb : kZ.agg w O ⟨true, ys⟩ vb) (hO : OldO O w) (hx : zRight ⟨false, xs⟩ = true) (hy : zRight ⟨true, ys⟩ = true) (lx : xs.length ≤ 100000000) (ly : ys.length ≤ 100000000) :
    Calls Tryz.prog 66 #[va, vb] w fun e w' => ∃ v, e = .returned v ∧ kZ.agg w' O (addZ ⟨false, xs⟩ ⟨true, ys⟩) v ∧ Ext NoB w w' := by
  have ha0 := ha
  have hb0 := hb
  have dx : DigR xs := z_digR ha hx
  have dy : DigR ys := z_digR hb hy
  obtain ⟨A, c, rfl, hl, hm, hr⟩ := z_open ha
  obtain ⟨B, d, rfl, hl', hm', hr'⟩ := z_open hb
  have HA := Lib.hid ha0
  have HB := Lib.hid hb0
  have HX := Lib.hid hx
  have HY := Lib.hid hy
  have DX := Lib.hid dx
  have DY := Lib.hid dy
  have HO := Lib.hid hO
  clear hr hr' ha hb hx hy ha0 hb0 hm hl hm' hl' dx dy hO
  have ST := Lib.hid (Box3.start w (.bool false) (.slice A xs.length c) (.bool true) (.slice B ys.length d) (.bool false) (.slice none 0 0) 50 50 50)
  go_enter Tryz.func66, Tryz.ntmps66
  go_wp2_with fail
  go_region_held3 (fun W => W.cell? ⟨w.heap.size, 0, none⟩ = some (.bool false) ∧ W.cell? ⟨w.heap.size, 1, none⟩ = some (.slice A xs.length c) ∧ W.cell? ⟨w.heap.size + 1, 0, none⟩ = some (.bool true) ∧ W.cell? ⟨w.heap.size + 1, 1, none⟩ = some (.slice B ys.length d) ∧ W.cell? ⟨w.heap.size + 1 + 1, 0, none⟩ = some (.bool false) ∧ W.cell? ⟨w.heap.size + 1 + 1, 1, none⟩ = some (.slice none 0 0)
      ∧ W.frozen? ⟨w.heap.size, 0, none⟩ = false ∧ W.frozen? ⟨w.heap.size, 1, none⟩ = false ∧ W.frozen? ⟨w.heap.size + 1, 0, none⟩ = false ∧ W.frozen? ⟨w.heap.size + 1, 1, none⟩ = false ∧ W.frozen? ⟨w.heap.size + 1 + 1, 0, none⟩ = false ∧ W.frozen? ⟨w.heap.size + 1 + 1, 1, none⟩ = false ∧ Hid (Ext NoB w W))
    (first | exact ST.out.drew | assumption | (refine Box3.ext ?_ (by assumption) <;> assumption))
    (first
      | (go_at_call 42; with_reducible refine (c_right _ ⟨false, xs⟩ _ O (kZ.aggExt HA.out (by obtain ⟨_, _, _, _, _, _, _, _, _, _, _, _, h⟩ := (by assumption : _ ∧ _); exact h.out.no)) HX.out).mono ?_; rintro e w1 ⟨rfl, hq⟩)
      | (go_at_call 42; with_reducible refine (c_right _ ⟨true, ys⟩ _ O (kZ.aggExt HB.out (by obtain ⟨_, _, _, _, _, _, _, _, _, _, _, _, h⟩ := (by assumption : _ ∧ _); exact h.out.no)) HY.out).mono ?_; rintro e w1 ⟨rfl, hq⟩))
  all_goals
    have HB3 := (by assumption : _ ∧ _)
    have H3 : Hid (Box3 w _ _ _ _ _ _ _) := HB3
    obtain ⟨c0, c1, d0, d1, e0, e1, f0, f1, g0, g1, i0, i1, HE⟩ := HB3
    have HC : Hid (kDigs.one w O xs (.slice A xs.length c)) := (z_digs HA.out).2
    have HD : Hid (kDigs.one w O ys (.slice B ys.length d)) := (z_digs HB.out).2
    go_wp2_with fail
    refine (c_compare _ _ xs ys _ O (kDigs.oneExt HC.out HE.out.no) (kDigs.oneExt HD.out HE.out.no)).mono ?_
    rintro e wc ⟨rfl, hd⟩
    obtain ⟨nd, rfl⟩ := hd
    by_cases hlt : cmpDigs xs ys < 0
    · have hz : Hid (addZ ⟨false, xs⟩ ⟨true, ys⟩ = signZ true (minusD ys xs)) := Lib.hid (by rw [addZ, if_neg (by simp), if_pos hlt])
      go_wp2_with fail
      have H4 : Hid (Box3 w (.bool true) (.slice B ys.length d) (.bool false) (.slice A xs.length c) (.bool false) (.slice none 0 0) _) := (H3.out.ext ((Ext.refl _ _).drewN nd)).swap _ _ _ _
      clear H3 HE c0 c1 d0 d1 e0 e1 f0 f1 g0 g1 i0 i1
      generalize ((((w1.drewN nd).setCell ⟨w.heap.size, 0, none⟩ (.bool true)).setCell ⟨w.heap.size, 1, none⟩ (.slice B ys.length d)).setCell ⟨w.heap.size + 1, 0, none⟩ (.bool false)).setCell ⟨w.heap.size + 1, 1, none⟩ (.slice A xs.length c) = W2 at H4 ⊢
      obtain ⟨c0, c1, d0, d1, e0, e1, f0, f1, g0, g1, i0, i1, -⟩ := H4.out
      go_region_held3 (fun W => W.cell? ⟨w.heap.size, 0, none⟩ = some (.bool true) ∧ W.cell? ⟨w.heap.size, 1, none⟩ = some (.slice B ys.length d) ∧ W.cell? ⟨w.heap.size + 1, 0, none⟩ = some (.bool false) ∧ W.cell? ⟨w.heap.size + 1, 1, none⟩ = some (.slice A xs.length c) ∧ Hid (Ext NoB w W))
        (first | exact H4.out.drew.two | assumption | (refine Box2R.ext ?_ (by assumption) <;> assumption) | (refine Box2R.set (Box2R.set ?_ _ _) _ _; assumption))
        (first
          | (go_at_call 88; refine (c_minus _ _ ys xs _ (Plus O (w.heap.size + 1 + 1)) (kDigs.onePlus HD.out H4.out.drew.ofExt.no (by omega)) (kDigs.onePlus HC.out H4.out.drew.ofExt.no (by omega)) (H4.out.drew.old HO.out) DY.out DX.out ly).mono ?_; rintro e w3 ⟨v3, rfl, hown, hq3⟩)
          | (go_at_call 78; refine (c_signed _ v3 _ _ (Plus O (w.heap.size + 1 + 1)) (hown.slice (H4.out.drew.old HO.out))).mono ?_; rintro e w4 ⟨v4, rfl, hz4, hq4⟩; (obtain ⟨A4, c4, rfl⟩ := z_form hz4); (have HZ4 := Lib.hid hz4); clear hz4; (obtain ⟨r0, r1, r2, r3⟩ := ((H4.out.drew.ext hq3).ext hq4).res)))
      have HE4 := Lib.hid ((H4.out.drew.ext hq3).ext hq4).ofExt
      clear hq3 hq4 hown
      go_wp2_with fail
      refine bodyPost_ret (v := .agg #[.bool (signZ true (minusD ys xs)).neg, .slice A4 (signZ true (minusD ys xs)).digs.length c4]) (by simp [results, Tryz.results66, go_sem, r0, r1, r2, r3]) rfl ⟨_, rfl, ?_, (HE4.out.setNew (show w.heap.size ≤ w.heap.size + 1 + 1 by omega) _).setNew (show w.heap.size ≤ w.heap.size + 1 + 1 by omega) _⟩
      rw [hz.out]
      exact kZ.aggMinus HZ4.out (Ext.set2 _ _ _ _ _)
    · have hz : Hid (addZ ⟨false, xs⟩ ⟨true, ys⟩ = signZ false (minusD xs ys)) := Lib.hid (by rw [addZ, if_neg (by simp), if_neg hlt])
      go_wp2_with fail
      have H4 : Hid (Box3 w (.bool false) (.slice A xs.length c) (.bool true) (.slice B ys.length d) (.bool false) (.slice none 0 0) _) := H3.out.ext ((Ext.refl _ _).drewN nd)
      clear H3 HE c0 c1 d0 d1 e0 e1 f0 f1 g0 g1 i0 i1
      generalize w1.drewN nd = W2 at H4 ⊢
      obtain ⟨c0, c1, d0, d1, e0, e1, f0, f1, g0, g1, i0, i1, -⟩ := H4.out
      go_region_held3 (fun W => W.cell? ⟨w.heap.size, 0, none⟩ = some (.bool false) ∧ W.cell? ⟨w.heap.size, 1, none⟩ = some (.slice A xs.length c) ∧ W.cell? ⟨w.heap.size + 1, 0, none⟩ = some (.bool true) ∧ W.cell? ⟨w.heap.size + 1, 1, none⟩ = some (.slice B ys.length d) ∧ Hid (Ext NoB w W))
        (first | exact H4.out.drew.two | assumption | (refine Box2R.ext ?_ (by assumption) <;> assumption) | (refine Box2R.set (Box2R.set ?_ _ _) _ _; assumption))
        (first
          | (go_at_call 88; refine (c_minus _ _ xs ys _ (Plus O (w.heap.size + 1 + 1)) (kDigs.onePlus HC.out H4.out.drew.ofExt.no (by omega)) (kDigs.onePlus HD.out H4.out.drew.ofExt.no (by omega)) (H4.out.drew.old HO.out) DX.out DY.out lx).mono ?_; rintro e w3 ⟨v3, rfl, hown, hq3⟩)
          | (go_at_call 78; refine (c_signed _ v3 _ _ (Plus O (w.heap.size + 1 + 1)) (hown.slice (H4.out.drew.old HO.out))).mono ?_; rintro e w4 ⟨v4, rfl, hz4, hq4⟩; (obtain ⟨A4, c4, rfl⟩ := z_form hz4); (have HZ4 := Lib.hid hz4); clear hz4; (obtain ⟨r0, r1, r2, r3⟩ := ((H4.out.drew.ext hq3).ext hq4).res)))
      have HE4 := Lib.hid ((H4.out.drew.ext hq3).ext hq4).ofExt
      clear hq3 hq4 hown
      go_wp2_with fail
      refine bodyPost_ret (v := .agg #[.bool (signZ false (minusD xs ys)).neg, .slice A4 (signZ false (minusD xs ys)).digs.length c4]) (by simp [results, Tryz.results66, go_sem, r0, r1, r2, r3]) rfl ⟨_, rfl, ?_, (HE4.out.setNew (show w.heap.size ≤ w.heap.size + 1 + 1 by omega) _).setNew (show w.heap.size ≤ w.heap.size + 1 + 1 by omega) _⟩
      rw [hz.out]
      exact kZ.aggMinus HZ4.out (Ext.set2 _ _ _ _ _)
set_option maxRecDepth 100000 in
set_option maxHeartbeats 2000000 in
theorem c_Add_tf (va vb : Value) (xs ys : List Int) (w : World) (O : Nat → Prop) (ha : kZ.agg w O ⟨true, xs⟩ va) (hb : kZ.agg w O ⟨false, ys⟩ vb) (hO : OldO O w) (hx : zRight ⟨true, xs⟩ = true) (hy : zRight ⟨false, ys⟩ = true) (lx : xs.length ≤ 100000000) (ly : ys.length ≤ 100000000) :
    Calls Tryz.prog 66 #[va, vb] w fun e w' => ∃ v, e = .returned v ∧ kZ.agg w' O (addZ ⟨true, xs⟩ ⟨false, ys⟩) v ∧ Ext NoB w w' := by
  have ha0 := ha
  have hb0 := hb
  have dx : DigR xs := z_digR ha hx
  have dy : DigR ys := z_digR hb hy
  obtain ⟨A, c, rfl, hl, hm, hr⟩ := z_open ha
  obtain ⟨B, d, rfl, hl', hm', hr'⟩ := z_open hb
  have HA := Lib.hid ha0
  have HB := Lib.hid hb0
  have HX := Lib.hid hx
  have HY := Lib.hid hy
  have DX := Lib.hid dx
  have DY := Lib.hid dy
  have HO := Lib.hid hO
  clear hr hr' ha hb hx hy ha0 hb0 hm hl hm' hl' dx dy hO
  have ST := Lib.hid (Box3.start w (.bool true) (.slice A xs.length c) (.bool false) (.slice B ys.length d) (.bool false) (.slice none 0 0) 50 50 50)
  go_enter Tryz.func66, Tryz.ntmps66
  go_wp2_with fail
  go_region_held3 (fun W => W.cell? ⟨w.heap.size, 0, none⟩ = some (.bool true) ∧ W.cell? ⟨w.heap.size, 1, none⟩ = some (.slice A xs.length c) ∧ W.cell? ⟨w.heap.size + 1, 0, none⟩ = some (.bool false) ∧ W.cell? ⟨w.heap.size + 1, 1, none⟩ = some (.slice B ys.length d) ∧ W.cell? ⟨w.heap.size + 1 + 1, 0, none⟩ = some (.bool false) ∧ W.cell? ⟨w.heap.size + 1 + 1, 1, none⟩ = some (.slice none 0 0)
      ∧ W.frozen? ⟨w.heap.size, 0, none⟩ = false ∧ W.frozen? ⟨w.heap.size, 1, none⟩ = false ∧ W.frozen? ⟨w.heap.size + 1, 0, none⟩ = false ∧ W.frozen? ⟨w.heap.size + 1, 1, none⟩ = false ∧ W.frozen? ⟨w.heap.size + 1 + 1, 0, none⟩ = false ∧ W.frozen? ⟨w.heap.size + 1 + 1, 1, none⟩ = false ∧ Hid (Ext NoB w W))
    (first | exact ST.out.drew | assumption | (refine Box3.ext ?_ (by assumption) <;> assumption))
    (first
      | (go_at_call 42; with_reducible refine (c_right _ ⟨true, xs⟩ _ O (kZ.aggExt HA.out (by obtain ⟨_, _, _, _, _, _, _, _, _, _, _, _, h⟩ := (by assumption : _ ∧ _); exact h.out.no)) HX.out).mono ?_; rintro e w1 ⟨rfl, hq⟩)
      | (go_at_call 42; with_reducible refine (c_right _ ⟨false, ys⟩ _ O (kZ.aggExt HB.out (by obtain ⟨_, _, _, _, _, _, _, _, _, _, _, _, h⟩ := (by assumption : _ ∧ _); exact h.out.no)) HY.out).mono ?_; rintro e w1 ⟨rfl, hq⟩))
  all_goals
    have HB3 := (by assumption : _ ∧ _)
    have H3 : Hid (Box3 w _ _ _ _ _ _ _) := HB3
    obtain ⟨c0, c1, d0, d1, e0, e1, f0, f1, g0, g1, i0, i1, HE⟩ := HB3
    have HC : Hid (kDigs.one w O xs (.slice A xs.length c)) := (z_digs HA.out).2
    have HD : Hid (kDigs.one w O ys (.slice B ys.length d)) := (z_digs HB.out).2
    go_wp2_with fail
    refine (c_compare _ _ xs ys _ O (kDigs.oneExt HC.out HE.out.no) (kDigs.oneExt HD.out HE.out.no)).mono ?_
    rintro e wc ⟨rfl, hd⟩
    obtain ⟨nd, rfl⟩ := hd
    by_cases hlt : cmpDigs xs ys < 0
    · have hz : Hid (addZ ⟨true, xs⟩ ⟨false, ys⟩ = signZ false (minusD ys xs)) := Lib.hid (by rw [addZ, if_neg (by simp), if_pos hlt])
      go_wp2_with fail
      have H4 : Hid (Box3 w (.bool false) (.slice B ys.length d) (.bool true) (.slice A xs.length c) (.bool false) (.slice none 0 0) _) := (H3.out.ext ((Ext.refl _ _).drewN nd)).swap _ _ _ _
      clear H3 HE c0 c1 d0 d1 e0 e1 f0 f1 g0 g1 i0 i1
      generalize ((((w1.drewN nd).setCell ⟨w.heap.size, 0, none⟩ (.bool false)).setCell ⟨w.heap.size, 1, none⟩ (.slice B ys.length d)).setCell ⟨w.heap.size + 1, 0, none⟩ (.bool true)).setCell ⟨w.heap.size + 1, 1, none⟩ (.slice A xs.length c) = W2 at H4 ⊢
      obtain ⟨c0, c1, d0, d1, e0, e1, f0, f1, g0, g1, i0, i1, -⟩ := H4.out
      go_region_held3 (fun W => W.cell? ⟨w.heap.size, 0, none⟩ = some (.bool false) ∧ W.cell? ⟨w.heap.size, 1, none⟩ = some (.slice B ys.length d) ∧ W.cell? ⟨w.heap.size + 1, 0, none⟩ = some (.bool true) ∧ W.cell? ⟨w.heap.size + 1, 1, none⟩ = some (.slice A xs.length c) ∧ Hid (Ext NoB w W))
        (first | exact H4.out.drew.two | assumption | (refine Box2R.ext ?_ (by assumption) <;> assumption) | (refine Box2R.set (Box2R.set ?_ _ _) _ _; assumption))
        (first
          | (go_at_call 88; refine (c_minus _ _ ys xs _ (Plus O (w.heap.size + 1 + 1)) (kDigs.onePlus HD.out H4.out.drew.ofExt.no (by omega)) (kDigs.onePlus HC.out H4.out.drew.ofExt.no (by omega)) (H4.out.drew.old HO.out) DY.out DX.out ly).mono ?_; rintro e w3 ⟨v3, rfl, hown, hq3⟩)
          | (go_at_call 78; refine (c_signed _ v3 _ _ (Plus O (w.heap.size + 1 + 1)) (hown.slice (H4.out.drew.old HO.out))).mono ?_; rintro e w4 ⟨v4, rfl, hz4, hq4⟩; (obtain ⟨A4, c4, rfl⟩ := z_form hz4); (have HZ4 := Lib.hid hz4); clear hz4; (obtain ⟨r0, r1, r2, r3⟩ := ((H4.out.drew.ext hq3).ext hq4).res)))
      have HE4 := Lib.hid ((H4.out.drew.ext hq3).ext hq4).ofExt
      clear hq3 hq4 hown
      go_wp2_with fail
      refine bodyPost_ret (v := .agg #[.bool (signZ false (minusD ys xs)).neg, .slice A4 (signZ false (minusD ys xs)).digs.length c4]) (by simp [results, Tryz.results66, go_sem, r0, r1, r2, r3]) rfl ⟨_, rfl, ?_, (HE4.out.setNew (show w.heap.size ≤ w.heap.size + 1 + 1 by omega) _).setNew (show w.heap.size ≤ w.heap.size + 1 + 1 by omega) _⟩
      rw [hz.out]
      exact kZ.aggMinus HZ4.out (Ext.set2 _ _ _ _ _)
    · have hz : Hid (addZ ⟨true, xs⟩ ⟨false, ys⟩ = signZ true (minusD xs ys)) := Lib.hid (by rw [addZ, if_neg (by simp), if_neg hlt])
      go_wp2_with fail
      have H4 : Hid (Box3 w (.bool true) (.slice A xs.length c) (.bool false) (.slice B ys.length d) (.bool false) (.slice none 0 0) _) := H3.out.ext ((Ext.refl _ _).drewN nd)
      clear H3 HE c0 c1 d0 d1 e0 e1 f0 f1 g0 g1 i0 i1
      generalize w1.drewN nd = W2 at H4 ⊢
      obtain ⟨c0, c1, d0, d1, e0, e1, f0, f1, g0, g1, i0, i1, -⟩ := H4.out
      go_region_held3 (fun W => W.cell? ⟨w.heap.size, 0, none⟩ = some (.bool true) ∧ W.cell? ⟨w.heap.size, 1, none⟩ = some (.slice A xs.length c) ∧ W.cell? ⟨w.heap.size + 1, 0, none⟩ = some (.bool false) ∧ W.cell? ⟨w.heap.size + 1, 1, none⟩ = some (.slice B ys.length d) ∧ Hid (Ext NoB w W))
        (first | exact H4.out.drew.two | assumption | (refine Box2R.ext ?_ (by assumption) <;> assumption) | (refine Box2R.set (Box2R.set ?_ _ _) _ _; assumption))
        (first
          | (go_at_call 88; refine (c_minus _ _ xs ys _ (Plus O (w.heap.size + 1 + 1)) (kDigs.onePlus HC.out H4.out.drew.ofExt.no (by omega)) (kDigs.onePlus HD.out H4.out.drew.ofExt.no (by omega)) (H4.out.drew.old HO.out) DX.out DY.out lx).mono ?_; rintro e w3 ⟨v3, rfl, hown, hq3⟩)
          | (go_at_call 78; refine (c_signed _ v3 _ _ (Plus O (w.heap.size + 1 + 1)) (hown.slice (H4.out.drew.old HO.out))).mono ?_; rintro e w4 ⟨v4, rfl, hz4, hq4⟩; (obtain ⟨A4, c4, rfl⟩ := z_form hz4); (have HZ4 := Lib.hid hz4); clear hz4; (obtain ⟨r0, r1, r2, r3⟩ := ((H4.out.drew.ext hq3).ext hq4).res)))
      have HE4 := Lib.hid ((H4.out.drew.ext hq3).ext hq4).ofExt
      clear hq3 hq4 hown
      go_wp2_with fail
      refine bodyPost_ret (v := .agg #[.bool (signZ true (minusD xs ys)).neg, .slice A4 (signZ true (minusD xs ys)).digs.length c4]) (by simp [results, Tryz.results66, go_sem, r0, r1, r2, r3]) rfl ⟨_, rfl, ?_, (HE4.out.setNew (show w.heap.size ≤ w.heap.size + 1 + 1 by omega) _).setNew (show w.heap.size ≤ w.heap.size + 1 + 1 by omega) _⟩
      rw [hz.out]
      exact kZ.aggMinus HZ4.out (Ext.set2 _ _ _ _ _)
set_option maxRecDepth 100000 in
set_option maxHeartbeats 2000000 in
theorem c_Add_tt (va vb : Value) (xs ys : List Int) (w : World) (O : Nat → Prop) (ha : kZ.agg w O ⟨true, xs⟩ va) (hb : kZ.agg w O ⟨true, ys⟩ vb) (hO : OldO O w) (hx : zRight ⟨true, xs⟩ = true) (hy : zRight ⟨true, ys⟩ = true) (lx : xs.length ≤ 100000000) (ly : ys.length ≤ 100000000) :
    Calls Tryz.prog 66 #[va, vb] w fun e w' => ∃ v, e = .returned v ∧ kZ.agg w' O (addZ ⟨true, xs⟩ ⟨true, ys⟩) v ∧ Ext NoB w w' := by
  have ha0 := ha
  have hb0 := hb
  have dx : DigR xs := z_digR ha hx
  have dy : DigR ys := z_digR hb hy
  obtain ⟨A, c, rfl, hl, hm, hr⟩ := z_open ha
  obtain ⟨B, d, rfl, hl', hm', hr'⟩ := z_open hb
  have HA := Lib.hid ha0
  have HB := Lib.hid hb0
  have HX := Lib.hid hx
  have HY := Lib.hid hy
  have DX := Lib.hid dx
  have DY := Lib.hid dy
  have HO := Lib.hid hO
  clear hr hr' ha hb hx hy ha0 hb0 hm hl hm' hl' dx dy hO
  have ST := Lib.hid (Box3.start w (.bool true) (.slice A xs.length c) (.bool true) (.slice B ys.length d) (.bool false) (.slice none 0 0) 50 50 50)
  go_enter Tryz.func66, Tryz.ntmps66
  go_wp2_with fail
  go_region_held3 (fun W => W.cell? ⟨w.heap.size, 0, none⟩ = some (.bool true) ∧ W.cell? ⟨w.heap.size, 1, none⟩ = some (.slice A xs.length c) ∧ W.cell? ⟨w.heap.size + 1, 0, none⟩ = some (.bool true) ∧ W.cell? ⟨w.heap.size + 1, 1, none⟩ = some (.slice B ys.length d) ∧ W.cell? ⟨w.heap.size + 1 + 1, 0, none⟩ = some (.bool false) ∧ W.cell? ⟨w.heap.size + 1 + 1, 1, none⟩ = some (.slice none 0 0)
      ∧ W.frozen? ⟨w.heap.size, 0, none⟩ = false ∧ W.frozen? ⟨w.heap.size, 1, none⟩ = false ∧ W.frozen? ⟨w.heap.size + 1, 0, none⟩ = false ∧ W.frozen? ⟨w.heap.size + 1, 1, none⟩ = false ∧ W.frozen? ⟨w.heap.size + 1 + 1, 0, none⟩ = false ∧ W.frozen? ⟨w.heap.size + 1 + 1, 1, none⟩ = false ∧ Hid (Ext NoB w W))
    (first | exact ST.out.drew | assumption | (refine Box3.ext ?_ (by assumption) <;> assumption))
    (first
      | (go_at_call 42; with_reducible refine (c_right _ ⟨true, xs⟩ _ O (kZ.aggExt HA.out (by obtain ⟨_, _, _, _, _, _, _, _, _, _, _, _, h⟩ := (by assumption : _ ∧ _); exact h.out.no)) HX.out).mono ?_; rintro e w1 ⟨rfl, hq⟩)
      | (go_at_call 42; with_reducible refine (c_right _ ⟨true, ys⟩ _ O (kZ.aggExt HB.out (by obtain ⟨_, _, _, _, _, _, _, _, _, _, _, _, h⟩ := (by assumption : _ ∧ _); exact h.out.no)) HY.out).mono ?_; rintro e w1 ⟨rfl, hq⟩))
  all_goals
    have HB3 := (by assumption : _ ∧ _)
    have H3 : Hid (Box3 w _ _ _ _ _ _ _) := HB3
    obtain ⟨c0, c1, d0, d1, e0, e1, f0, f1, g0, g1, i0, i1, HE⟩ := HB3
    have hz : Hid (addZ ⟨true, xs⟩ ⟨true, ys⟩ = signZ true (plusD xs ys)) := rfl
    go_wp2_with fail
    go_region_held3 (fun W => W.cell? ⟨w.heap.size, 0, none⟩ = some (.bool true) ∧ W.cell? ⟨w.heap.size, 1, none⟩ = some (.slice A xs.length c) ∧ W.cell? ⟨w.heap.size + 1, 0, none⟩ = some (.bool true) ∧ W.cell? ⟨w.heap.size + 1, 1, none⟩ = some (.slice B ys.length d) ∧ Hid (Ext NoB w W))
      (first | exact H3.out.drew.two | assumption | (refine Box2R.ext ?_ (by assumption) <;> assumption) | (refine Box2R.set (Box2R.set ?_ _ _) _ _; assumption))
      (first
        | (go_at_call 87; refine (c_plus _ _ xs ys _ (Plus O (w.heap.size + 1 + 1)) (kDigs.onePlus (z_digs HA.out).2 H3.out.drew.ofExt.no (by omega)) (kDigs.onePlus (z_digs HB.out).2 H3.out.drew.ofExt.no (by omega)) (H3.out.drew.old HO.out) DX.out DY.out lx ly).mono ?_; rintro e w3 ⟨v3, rfl, hown, hq3⟩)
        | (go_at_call 78; refine (c_signed _ v3 _ _ (Plus O (w.heap.size + 1 + 1)) (hown.slice (H3.out.drew.old HO.out))).mono ?_; rintro e w4 ⟨v4, rfl, hz4, hq4⟩; (obtain ⟨A4, c4, rfl⟩ := z_form hz4); (have HZ4 := Lib.hid hz4); clear hz4; (obtain ⟨r0, r1, r2, r3⟩ := ((H3.out.drew.ext hq3).ext hq4).res)))
    have HE4 := Lib.hid ((H3.out.drew.ext hq3).ext hq4).ofExt
    clear hq3 hq4 hown
    go_wp2_with fail
    refine bodyPost_ret (v := .agg #[.bool (signZ true (plusD xs ys)).neg, .slice A4 (signZ true (plusD xs ys)).digs.length c4]) (by simp [results, Tryz.results66, go_sem, r0, r1, r2, r3]) rfl ⟨_, rfl, ?_, (HE4.out.setNew (show w.heap.size ≤ w.heap.size + 1 + 1 by omega) _).setNew (show w.heap.size ≤ w.heap.size + 1 + 1 by omega) _⟩
    rw [hz.out]
    exact kZ.aggMinus HZ4.out (Ext.set2 _ _ _ _ _)
theorem c_Add (va vb : Value) (x y : ZInt) (w : World) (O : Nat → Prop) (ha : kZ.agg w O x va) (hb : kZ.agg w O y vb) (hO : OldO O w) (hx : zRight x = true) (hy : zRight y = true) (lx : x.digs.length ≤ 100000000) (ly : y.digs.length ≤ 100000000) :
    Calls Tryz.prog 66 #[va, vb] w fun e w' => ∃ v, e = .returned v ∧ kZ.agg w' O (addZ x y) v ∧ Ext NoB w w' := by
  obtain ⟨s, xs⟩ := x
  obtain ⟨t, ys⟩ := y
  cases s <;> cases t
  · exact c_Add_ff va vb xs ys w O ha hb hO hx hy lx ly
  · exact c_Add_ft va vb xs ys w O ha hb hO hx hy lx ly
  · exact c_Add_tf va vb xs ys w O ha hb hO hx hy lx ly
  · exact c_Add_tt va vb xs ys w O ha hb hO hx hy lx ly
end
end Go.Proofs.YtfpmapbimhdafaaGreatDoor

namespace Go.Proofs.YtfpmapbimhdafaaGreatDoor
open Go.RowKit
set_option linter.unusedVariables false
set_option linter.unusedSimpArgs false

def negZ (x : ZInt) : ZInt := signZ (!x.neg) x.digs
/-- One box of two cells, that is read alone. -/
def Box1R (w : World) (v0 v1 : Value) (W : World) : Prop := W.cell? ⟨w.heap.size, 0, none⟩ = some v0 ∧ W.cell? ⟨w.heap.size, 1, none⟩ = some v1 ∧ Hid (Ext NoB w W)
theorem Box1R.ext {w W W' : World} {v0 v1 : Value} (h : Box1R w v0 v1 W) (he : Ext NoB W W') : Box1R w v0 v1 W' := by
  obtain ⟨h0, h1, hE⟩ := h
  exact ⟨he.cell h0 (fun h => h), he.cell h1 (fun h => h), hE.out.trans he⟩
theorem Box1R.set {w W : World} {v0 v1 : Value} (h : Box1R w v0 v1 W) (k : Nat) (u : Value) : Box1R w v0 v1 (W.setCell ⟨w.heap.size + 1, k, none⟩ u) := by
  obtain ⟨h0, h1, hE⟩ := h
  refine ⟨?_, ?_, hE.out.setNew (show w.heap.size ≤ w.heap.size + 1 by omega) _⟩
  · rw [World.cell?_setCell_other _ _ _ _ (by intro e; injection e with e; omega)]; exact h0
  · rw [World.cell?_setCell_other _ _ _ _ (by intro e; injection e with e; omega)]; exact h1
theorem old_plus {O : Nat → Prop} {w W : World} (hO : OldO O w) (he : Ext NoB w W) {g : Nat} (hg : g < W.heap.size) : OldO (Plus O g) W := by
  rintro b (hb | rfl)
  · exact Nat.lt_of_lt_of_le (hO b hb) he.size
  · exact hg

section
attribute [local go_sem] setCell_same
set_option maxRecDepth 100000 in
set_option maxHeartbeats 1000000 in
theorem c_Neg (va : Value) (x : ZInt) (w : World) (O : Nat → Prop) (ha : kZ.agg w O x va) (hO : OldO O w) (hx : zRight x = true) (lx : x.digs.length ≤ 1000000000) :
    Calls Tryz.prog 68 #[va] w fun e w' => ∃ v, e = .returned v ∧ kZ.agg w' O (negZ x) v ∧ Ext NoB w w' := by
  have ha0 := ha
  obtain ⟨A, c, rfl, hl, hm, hr⟩ := z_open ha
  have HA := Lib.hid ha0
  have HX := Lib.hid hx
  have HO := Lib.hid hO
  clear hr ha hx ha0 hm hl hO
  go_enter Tryz.func68, Tryz.ntmps68
  go_wp2_with fail
  refine (c_right _ x _ O (kZ.aggExt HA.out (((Ext.refl _ _).alloc _).alloc _)) HX.out).mono ?_
  rintro e w1 ⟨rfl, he⟩
  have c0 : w1.cell? ⟨w.heap.size, 0, none⟩ = some (.bool x.neg) := he.cell (by go_simp) (fun h => h)
  have c1 : w1.cell? ⟨w.heap.size, 1, none⟩ = some (.slice A x.digs.length c) := he.cell (by go_simp) (fun h => h)
  have f0 : w1.frozen? ⟨w.heap.size, 0, none⟩ = false := (he.frozen (by simp; omega) (fun h => h)).trans (by go_simp)
  have f1 : w1.frozen? ⟨w.heap.size, 1, none⟩ = false := (he.frozen (by simp; omega) (fun h => h)).trans (by go_simp)
  have d0 : w1.cell? ⟨w.heap.size + 1, 0, none⟩ = some (.bool false) := he.cell (by go_simp) (fun h => h)
  have d1 : w1.cell? ⟨w.heap.size + 1, 1, none⟩ = some (.slice none 0 0) := he.cell (by go_simp) (fun h => h)
  have g0 : w1.frozen? ⟨w.heap.size + 1, 0, none⟩ = false := (he.frozen (by simp) (fun h => h)).trans (by go_simp)
  have g1 : w1.frozen? ⟨w.heap.size + 1, 1, none⟩ = false := (he.frozen (by simp) (fun h => h)).trans (by go_simp)
  have HE := Lib.hid ((((Ext.refl NoB w).alloc _).alloc _).trans he)
  have hsz : w.heap.size + 1 < w1.heap.size := cell_lt d0
  have HD : Hid (w1.cell? ⟨w.heap.size + 1, 0, none⟩ = some (.bool false) ∧ w1.cell? ⟨w.heap.size + 1, 1, none⟩ = some (.slice none 0 0) ∧ w1.frozen? ⟨w.heap.size + 1, 0, none⟩ = false ∧ w1.frozen? ⟨w.heap.size + 1, 1, none⟩ = false) := ⟨d0, d1, g0, g1⟩
  have HB : Hid (Box1R w (.bool x.neg) (.slice A x.digs.length c) w1.drew) := ⟨c0, c1, HE.out.drew⟩
  have HC : Hid (kDigs.one w O x.digs (.slice A x.digs.length c)) := (z_digs HA.out).2
  clear he
  go_wp2_with fail
  go_region_held3 (fun W => W.cell? ⟨w.heap.size, 0, none⟩ = some (.bool x.neg) ∧ W.cell? ⟨w.heap.size, 1, none⟩ = some (.slice A x.digs.length c) ∧ Hid (Ext NoB w W))
    (first | exact HB.out | assumption | (refine Box1R.ext ?_ (by assumption) <;> assumption) | (refine Box1R.set (Box1R.set ?_ _ _) _ _; assumption))
    (first
      | (go_at_call 89; refine (c_zcopied _ x.digs _ (Plus O (w.heap.size + 1)) (kDigs.onePlus HC.out HE.out.drew.no (by omega)) lx).mono ?_; rintro e w3 ⟨v3, rfl, hown, hq3⟩)
      | (go_at_call 78; refine (c_signed _ v3 _ _ (Plus O (w.heap.size + 1)) (hown.slice (old_plus HO.out HE.out.drew hsz))).mono ?_; rintro e w4 ⟨v4, rfl, hz4, hq4⟩; (obtain ⟨A4, c4, rfl⟩ := z_form hz4); (have HZ4 := Lib.hid hz4); clear hz4; (have r0 := (hq3.trans hq4).cell HD.out.1 (fun h => h)); (have r1 := (hq3.trans hq4).cell HD.out.2.1 (fun h => h)); (have r2 := ((hq3.trans hq4).frozen hsz (fun h => h)).trans HD.out.2.2.1); (have r3 := ((hq3.trans hq4).frozen hsz (fun h => h)).trans HD.out.2.2.2)))
  have HE4 := Lib.hid (HE.out.drew.trans (hq3.trans hq4))
  clear hq3 hq4 hown
  go_wp2_with fail
  refine bodyPost_ret (v := .agg #[.bool (negZ x).neg, .slice A4 (negZ x).digs.length c4]) (by simp [negZ, results, Tryz.results68, go_sem, r0, r1, r2, r3]) rfl ⟨_, rfl, ?_, (HE4.out.setNew (show w.heap.size ≤ w.heap.size + 1 by omega) _).setNew (show w.heap.size ≤ w.heap.size + 1 by omega) _⟩
  exact kZ.aggMinus HZ4.out (Ext.set2 _ _ _ _ _)
end

/-- The digits of a number to the base of 10^9; so many rounds serve. -/
def digsN : Nat → Nat → List Int
  | 0, _ => []
  | f + 1, n => if n = 0 then [] else ((n % 1000000000 : Nat) : Int) :: digsN f (n / 1000000000)
def ofN (n : Nat) : ZInt := ⟨false, digsN 3 n⟩
theorem digsN_zero (f : Nat) : digsN f 0 = [] := by cases f <;> simp [digsN]
theorem digsN_pos {f n : Nat} (h : n ≠ 0) : digsN (f + 1) n = ((n % 1000000000 : Nat) : Int) :: digsN f (n / 1000000000) := by rw [digsN, if_neg h]

set_option maxRecDepth 100000 in
set_option maxHeartbeats 1000000 in
theorem c_Of (n : Nat) (w : World) (O : Nat → Prop) (hO : OldO O w) (hn : n < 1000000000000) :
    Calls Tryz.prog 23 #[.int .i64 (n : Int)] w fun e w' => ∃ v, e = .returned v ∧ kZ.agg w' O (ofN n) v ∧ Ext NoB w w' := by
  have HO := Lib.hid hO
  clear hO
  go_enter Tryz.func23, Tryz.ntmps23
  go_wp2_with fail
  go_loopw [3, 4] (fun l v wr => ∃ (m f : Nat) (os : List Int), l = .int .u64 m ∧ m ≤ n ∧ Hid (os ++ digsN f m = digsN 3 n) ∧ Hid (m < 1000000000 ^ f) ∧ Hid (os.length + f = 3) ∧ Own wr (w.heap.size + 1) 101 kU (Plus O w.heap.size) v os ∧ Hid (Ext NoB w wr) ∧
      wr.cell? ⟨w.heap.size, 0, none⟩ = some (.bool false) ∧ wr.cell? ⟨w.heap.size, 1, none⟩ = some (.slice none 0 0) ∧ wr.frozen? ⟨w.heap.size, 0, none⟩ = false ∧ wr.frozen? ⟨w.heap.size, 1, none⟩ = false) (fun l _ _ => (intOf l).toNat)
  case atStart => exact ⟨n, 3, [], rfl, Nat.le_refl _, Lib.hid rfl, Lib.hid (by omega), Lib.hid rfl, Own.nil _ _ _ _, Lib.hid ((Ext.refl _ _).alloc _), by go_simp, by go_simp, by go_simp, by go_simp⟩
  case round =>
    obtain ⟨m, f, os, rfl, hmn, HP, HF, HL, hown, HX, c0, c1, f0, f1⟩ := hrel
    have hsz : w.heap.size + 1 ≤ wr.heap.size := cell_lt c0
    rcases Nat.eq_zero_or_pos m with h0 | h0
    · subst h0
      obtain ⟨A, c, rfl, hl, hm⟩ := hown.shape
      have HV := Lib.hid (hown.slice (pos := Nat.one_pos) (fun b hb => hb.elim (fun hb => Nat.lt_succ_of_lt (HO.out b hb)) (fun e => by omega)))
      clear hown
      go_wp2_with fail
      have e1 : ofN n = ⟨false, os⟩ := by
        have h := HP.out
        rw [digsN_zero, List.append_nil] at h
        rw [ofN, ← h]
      refine bodyPost_ret (v := .agg #[.bool false, .slice A os.length c]) (by simp [results, Tryz.results23, go_sem, c0, c1, f0, f1]) rfl ⟨_, rfl, ?_, (HX.out.setNew (Nat.le_refl _) _).setNew (Nat.le_refl _) _⟩
      rw [e1]
      exact zv_mk (x := ⟨false, os⟩) (kDigs.oneMinus HV.out (Ext.set2 _ _ _ _ _))
    · obtain ⟨f, rfl⟩ : ∃ g, f = g + 1 := ⟨f - 1, by
        have h := HF.out
        rcases f with _ | g
        · simp at h; omega
        · rfl⟩
      have HP' := Lib.hid (show (os ++ [((m % 1000000000 : Nat) : Int)]) ++ digsN f (m / 1000000000) = digsN 3 n by
        have h := HP.out
        rw [digsN_pos (by omega)] at h
        rw [List.append_assoc]
        exact h)
      have HF' := Lib.hid (show m / 1000000000 < 1000000000 ^ f by
        have h := HF.out
        rw [Nat.pow_succ] at h
        exact Nat.div_lt_of_lt_mul (by rw [Nat.mul_comm]; exact h))
      go_wp2_with (at_builtin; refine wpl_append1 kU Nat.one_pos rfl (.tmp 15) (.tmp 19) 48 rfl (w.heap.size + 1) 101 _ 4 Tryz.underlying48 info_u32 rfl (Plus O w.heap.size) _ rfl os hown rfl ((m % 1000000000 : Nat) : Int) [_] ⟨rfl, wf_u (by omega) (by omega)⟩ (old_plus HO.out HX.out hsz) (by omega) (by have := HL.out; omega) hsz ?_; intro v2 w2 hO2 hE2 hat2)
      have HX2 := Lib.hid (HX.out.then hE2 (fun i hi h => by have := (hown.base h).1; omega))
      have c0' := hE2.cell c0 (fun h => by have := (hown.base h).1; simp only at this; omega)
      have c1' := hE2.cell c1 (fun h => by have := (hown.base h).1; simp only at this; omega)
      have f0' := (hE2.frozen (cell_lt c0) (fun h => by have := (hown.base h).1; simp only at this; omega)).trans f0
      have f1' := (hE2.frozen (cell_lt c1) (fun h => by have := (hown.base h).1; simp only at this; omega)).trans f1
      clear hE2 hat2
      refine ⟨⟨m / 1000000000, f, _, by go_num, by omega, HP', HF', Lib.hid (by have := HL.out; rw [List.length_append]; simp; omega), hO2, HX2, c0', c1', f0', f1'⟩, by simp [intOf]; omega⟩
end Go.Proofs.YtfpmapbimhdafaaGreatDoor

namespace Go.Proofs.YtfpmapbimhdafaaGreatDoor
open Go.RowKit
set_option linter.unusedVariables false
set_option linter.unusedSimpArgs false

/-- The value of the m uppermost of n digits. -/
def hv (xs : List Int) (n : Nat) : Nat → Int
  | 0 => 0
  | m + 1 => hv xs n m * 1000000000 + rdI xs (n - 1 - m)
/-- The number that an int has; none: it is too great. -/
def smallZ (x : ZInt) : Option Int :=
  if 3 < x.digs.length ∨ (x.digs.length = 3 ∧ 4 < rdI x.digs 2) then none else if 4611686018427387904 < hv x.digs x.digs.length x.digs.length then none else some (if x.neg then -hv x.digs x.digs.length x.digs.length else hv x.digs x.digs.length x.digs.length)
theorem hv_nonneg {xs : List Int} (hd : DigR xs) : ∀ m, m ≤ xs.length → 0 ≤ hv xs xs.length m
  | 0, _ => by simp [hv]
  | m + 1, h => by
    have h1 := hv_nonneg hd m (by omega)
    have h2 := hd (xs.length - 1 - m) (by omega)
    rw [hv]
    omega
theorem hv_room {xs : List Int} (hd : DigR xs) (h3 : xs.length ≤ 3) (h4 : xs.length = 3 → rdI xs 2 ≤ 4) {m : Nat} (hm : m < xs.length) : hv xs xs.length m ≤ 4999999999 := by
  rcases m with _ | m
  · simp [hv]
  rcases m with _ | m
  · have h2 := hd (xs.length - 1 - 0) (by omega)
    simp only [hv]
    omega
  · obtain rfl : m = 0 := by omega
    have hl : xs.length = 3 := by omega
    have h2 := hd 1 (by omega)
    have h3 := h4 hl
    have h5 := hd 2 (by omega)
    have e : hv xs xs.length (0 + 1 + 1) = rdI xs 2 * 1000000000 + rdI xs 1 := by simp [hv, hl]
    rw [e]
    omega
theorem hv_room2 {xs : List Int} (hd : DigR xs) (h3 : xs.length ≤ 3) (h4 : xs.length = 3 → rdI xs 2 ≤ 4) {m : Nat} (hm : m ≤ xs.length) : hv xs xs.length m ≤ 4999999999999999999 := by
  rcases m with _ | m
  · simp [hv]
  · have h1 := hv_room hd h3 h4 (show m < xs.length by omega)
    have h2 := hd (xs.length - 1 - m) (by omega)
    rw [hv]
    omega

section
attribute [local go_sem] setCell_same
set_option maxRecDepth 100000 in
set_option maxHeartbeats 1000000 in
theorem c_Small (va : Value) (x : ZInt) (w : World) (O : Nat → Prop) (ha : kZ.agg w O x va) (hx : zRight x = true) :
    Calls Tryz.prog 93 #[va] w fun e w' => e = .returned (.tuple #[.int .i64 ((smallZ x).getD 0), .bool (smallZ x).isSome]) ∧ Ext NoB w w' := by
  have ha0 := ha
  have dx := z_digR ha hx
  obtain ⟨A, c, rfl, hl, hm, hr⟩ := z_open ha
  have HA := Lib.hid ha0
  have HX := Lib.hid hx
  have HR := Lib.hid hr
  have DX := Lib.hid dx
  have hm' : x.digs.length ≤ 9223372036854775807 := by unfold maxLen at hm; omega
  clear hr ha hx ha0 hm hl dx
  obtain ⟨s, xs⟩ := x
  simp only at *
  -- up to the tests
  by_cases hbig : 3 < xs.length
  · have hz : Hid (smallZ ⟨s, xs⟩ = none) := Lib.hid (by rw [smallZ, if_pos (.inl hbig)])
    go_enter Tryz.func93, Tryz.ntmps93
    go_wp2_with fail
    refine (c_right _ ⟨s, xs⟩ _ O (kZ.aggExt HA.out ((Ext.refl _ _).alloc _)) HX.out).mono ?_
    rintro e w1 ⟨rfl, he⟩
    have c0 : w1.cell? ⟨w.heap.size, 0, none⟩ = some (.bool s) := he.cell (by go_simp) (fun h => h)
    have c1 : w1.cell? ⟨w.heap.size, 1, none⟩ = some (.slice A xs.length c) := he.cell (by go_simp) (fun h => h)
    have f0 : w1.frozen? ⟨w.heap.size, 0, none⟩ = false := (he.frozen (by simp) (fun h => h)).trans (by go_simp)
    have f1 : w1.frozen? ⟨w.heap.size, 1, none⟩ = false := (he.frozen (by simp) (fun h => h)).trans (by go_simp)
    have HE := Lib.hid (((Ext.refl NoB w).alloc _).trans he)
    clear he
    go_wp2_with fail
    go_ret2
    rw [hz.out]
    exact ⟨rfl, HE.out⟩
  · by_cases h3 : xs.length = 3 ∧ 4 < rdI xs 2
    · have hz : Hid (smallZ ⟨s, xs⟩ = none) := Lib.hid (by rw [smallZ, if_pos (.inr h3)])
      obtain ⟨h3, h4⟩ := h3
      obtain ⟨b, off, rfl, _, c2, _⟩ := ints_at HR.out (show 2 < xs.length by omega)
      have H3 := Lib.hid h3
      have hb3 : ((xs.length : Int) == 3) = true := by rw [h3]; rfl
      have hlo : 2 < xs.length := by omega
      clear h3
      go_enter Tryz.func93, Tryz.ntmps93
      go_wp2_with fail
      refine (c_right _ ⟨s, xs⟩ _ O (kZ.aggExt HA.out ((Ext.refl _ _).alloc _)) HX.out).mono ?_
      rintro e w1 ⟨rfl, he⟩
      have c0 : w1.cell? ⟨w.heap.size, 0, none⟩ = some (.bool s) := he.cell (by go_simp) (fun h => h)
      have c1 : w1.cell? ⟨w.heap.size, 1, none⟩ = some (.slice (some ⟨b, off, none⟩) xs.length c) := he.cell (by go_simp) (fun h => h)
      have f0 : w1.frozen? ⟨w.heap.size, 0, none⟩ = false := (he.frozen (by simp) (fun h => h)).trans (by go_simp)
      have f1 : w1.frozen? ⟨w.heap.size, 1, none⟩ = false := (he.frozen (by simp) (fun h => h)).trans (by go_simp)
      have HE := Lib.hid (((Ext.refl NoB w).alloc _).trans he)
      replace c2 := HE.out.cell c2 (fun h => h)
      clear he
      go_wp2_with fail
      go_ret2
      rw [hz.out]
      exact ⟨rfl, HE.out⟩
    · have h4 : xs.length = 3 → rdI xs 2 ≤ 4 := fun h => by
        rcases Int.lt_or_le 4 (rdI xs 2) with h' | h'
        · exact absurd ⟨h, h'⟩ h3
        · exact h'
      have HN := Lib.hid (show ¬ (3 < xs.length ∨ (xs.length = 3 ∧ 4 < rdI xs 2)) from fun h => h.elim hbig h3)
      have R1 := Lib.hid (fun (m : Nat) (hm : m < xs.length) => hv_room DX.out (by omega) h4 hm)
      have R2 := Lib.hid (fun (m : Nat) (hm : m ≤ xs.length) => hv_room2 DX.out (by omega) h4 hm)
      have R0 := Lib.hid (hv_nonneg DX.out)
      have H4 := Lib.hid h4
      clear h3 h4
      have hl3 : xs.length ≤ 3 := by omega
      rcases Nat.lt_or_ge xs.length 3 with hlt3 | hge3
      · have hb3 : ((xs.length : Int) == 3) = false := by rw [beq_eq_false_iff_ne]; omega
        go_enter Tryz.func93, Tryz.ntmps93
        go_wp2_with fail
        refine (c_right _ ⟨s, xs⟩ _ O (kZ.aggExt HA.out ((Ext.refl _ _).alloc _)) HX.out).mono ?_
        rintro e w1 ⟨rfl, he⟩
        have c0 : w1.cell? ⟨w.heap.size, 0, none⟩ = some (.bool s) := he.cell (by go_simp) (fun h => h)
        have c1 : w1.cell? ⟨w.heap.size, 1, none⟩ = some (.slice A xs.length c) := he.cell (by go_simp) (fun h => h)
        have f0 : w1.frozen? ⟨w.heap.size, 0, none⟩ = false := (he.frozen (by simp) (fun h => h)).trans (by go_simp)
        have f1 : w1.frozen? ⟨w.heap.size, 1, none⟩ = false := (he.frozen (by simp) (fun h => h)).trans (by go_simp)
        have HE := Lib.hid (((Ext.refl NoB w).alloc _).trans he)
        clear he
        go_wp2_with fail
        go_loop [5, 6] (fun v i => ∃ (m : Nat) (q : Int), m ≤ xs.length ∧ i = .int .i64 ((xs.length : Int) - 1 - m) ∧ v = .int .i64 q ∧ 0 ≤ q ∧ Hid (q = hv xs xs.length m)) (fun _ i => (intOf i + 1).toNat)
        case atStart => exact ⟨0, 0, Nat.zero_le _, by simp, rfl, Int.le_refl _, Lib.hid rfl⟩
        case round =>
          obtain ⟨m, q, hm, rfl, rfl, hq, HQ⟩ := hrel
          by_cases hlt : m < xs.length
          · obtain ⟨k, hk⟩ : ∃ k, k = xs.length - 1 - m := ⟨_, rfl⟩
            obtain ⟨b, off, hA, _, c3, _⟩ := ints_at HR.out (show k < xs.length by omega)
            (try (injection hA with hA; injection hA with hA1 hA2; subst hA1 hA2)); (try subst hA)
            replace c3 := HE.out.cell c3 (fun h => h)
            obtain ⟨y0, y1⟩ := DX.out k (by omega)
            have hroom := R1.out m hlt
            rw [← HQ.out] at hroom
            have hstep := Lib.hid (show q * 1000000000 + rdI xs k = hv xs xs.length (m + 1) by rw [hv, ← HQ.out, hk])
            have ei : (xs.length : Int) - 1 - m = (k : Int) := by omega
            rw [ei]
            have hkl : k < xs.length := by omega
            have EI := Lib.hid ei
            clear hk ei
            go_wp2_with fail
            exact ⟨⟨m + 1, _, by omega, by have := EI.out; congr 1 <;> omega, rfl, by omega, hstep⟩, by have := EI.out; simp [intOf] <;> omega⟩
          · have hml : m = xs.length := by omega
            have hq2 := R2.out m hm
            rw [← HQ.out] at hq2
            have HQ2 := Lib.hid (show q = hv xs xs.length xs.length by rw [HQ.out, hml])
            have ei : (xs.length : Int) - 1 - m = -1 := by omega
            rw [ei]
            clear ei hml
            by_cases hbigv : 4611686018427387904 < q
            · have hz : Hid (smallZ ⟨s, xs⟩ = none) := Lib.hid (by rw [smallZ, if_neg HN.out, if_pos (by simp only; rw [← HQ2.out]; exact hbigv)])
              go_wp2_with fail
              go_ret2
              rw [hz.out]
              exact ⟨rfl, HE.out⟩
            · cases s
              · have hz : Hid (smallZ ⟨false, xs⟩ = some q) := Lib.hid (by rw [smallZ, if_neg HN.out, if_neg (by simp only; rw [← HQ2.out]; exact hbigv)]; simp only [Bool.false_eq_true, if_false]; rw [HQ2.out])
                go_wp2_with fail
                go_ret2
                rw [hz.out]
                exact ⟨rfl, HE.out⟩
              · have hz : Hid (smallZ ⟨true, xs⟩ = some (-q)) := Lib.hid (by rw [smallZ, if_neg HN.out, if_neg (by simp only; rw [← HQ2.out]; exact hbigv)]; simp only [if_true]; rw [HQ2.out])
                go_wp2_with fail
                go_ret2
                rw [hz.out]
                exact ⟨rfl, HE.out⟩
      · have hb3 : ((xs.length : Int) == 3) = true := by rw [beq_iff_eq]; omega
        obtain ⟨b, off, rfl, _, c2, _⟩ := ints_at HR.out (show 2 < xs.length by omega)
        have hr2 : ¬ 4 < rdI xs 2 := by have := H4.out (by omega); omega
        have hlo : 2 < xs.length := by omega
        go_enter Tryz.func93, Tryz.ntmps93
        go_wp2_with fail
        refine (c_right _ ⟨s, xs⟩ _ O (kZ.aggExt HA.out ((Ext.refl _ _).alloc _)) HX.out).mono ?_
        rintro e w1 ⟨rfl, he⟩
        have c0 : w1.cell? ⟨w.heap.size, 0, none⟩ = some (.bool s) := he.cell (by go_simp) (fun h => h)
        have c1 : w1.cell? ⟨w.heap.size, 1, none⟩ = some (.slice (some ⟨b, off, none⟩) xs.length c) := he.cell (by go_simp) (fun h => h)
        have f0 : w1.frozen? ⟨w.heap.size, 0, none⟩ = false := (he.frozen (by simp) (fun h => h)).trans (by go_simp)
        have f1 : w1.frozen? ⟨w.heap.size, 1, none⟩ = false := (he.frozen (by simp) (fun h => h)).trans (by go_simp)
        have HE := Lib.hid (((Ext.refl NoB w).alloc _).trans he)
        replace c2 := HE.out.cell c2 (fun h => h)
        clear he
        go_wp2_with fail
        go_loop [5, 6] (fun v i => ∃ (m : Nat) (q : Int), m ≤ xs.length ∧ i = .int .i64 ((xs.length : Int) - 1 - m) ∧ v = .int .i64 q ∧ 0 ≤ q ∧ Hid (q = hv xs xs.length m)) (fun _ i => (intOf i + 1).toNat)
        case atStart => exact ⟨0, 0, Nat.zero_le _, by simp, rfl, Int.le_refl _, Lib.hid rfl⟩
        case round =>
          obtain ⟨m, q, hm, rfl, rfl, hq, HQ⟩ := hrel
          by_cases hlt : m < xs.length
          · obtain ⟨k, hk⟩ : ∃ k, k = xs.length - 1 - m := ⟨_, rfl⟩
            obtain ⟨b, off, hA, _, c3, _⟩ := ints_at HR.out (show k < xs.length by omega)
            (try (injection hA with hA; injection hA with hA1 hA2; subst hA1 hA2)); (try subst hA)
            replace c3 := HE.out.cell c3 (fun h => h)
            obtain ⟨y0, y1⟩ := DX.out k (by omega)
            have hroom := R1.out m hlt
            rw [← HQ.out] at hroom
            have hstep := Lib.hid (show q * 1000000000 + rdI xs k = hv xs xs.length (m + 1) by rw [hv, ← HQ.out, hk])
            have ei : (xs.length : Int) - 1 - m = (k : Int) := by omega
            rw [ei]
            have hkl : k < xs.length := by omega
            have EI := Lib.hid ei
            clear hk ei
            go_wp2_with fail
            exact ⟨⟨m + 1, _, by omega, by have := EI.out; congr 1 <;> omega, rfl, by omega, hstep⟩, by have := EI.out; simp [intOf] <;> omega⟩
          · have hml : m = xs.length := by omega
            have hq2 := R2.out m hm
            rw [← HQ.out] at hq2
            have HQ2 := Lib.hid (show q = hv xs xs.length xs.length by rw [HQ.out, hml])
            have ei : (xs.length : Int) - 1 - m = -1 := by omega
            rw [ei]
            clear ei hml
            by_cases hbigv : 4611686018427387904 < q
            · have hz : Hid (smallZ ⟨s, xs⟩ = none) := Lib.hid (by rw [smallZ, if_neg HN.out, if_pos (by simp only; rw [← HQ2.out]; exact hbigv)])
              go_wp2_with fail
              go_ret2
              rw [hz.out]
              exact ⟨rfl, HE.out⟩
            · cases s
              · have hz : Hid (smallZ ⟨false, xs⟩ = some q) := Lib.hid (by rw [smallZ, if_neg HN.out, if_neg (by simp only; rw [← HQ2.out]; exact hbigv)]; simp only [Bool.false_eq_true, if_false]; rw [HQ2.out])
                go_wp2_with fail
                go_ret2
                rw [hz.out]
                exact ⟨rfl, HE.out⟩
              · have hz : Hid (smallZ ⟨true, xs⟩ = some (-q)) := Lib.hid (by rw [smallZ, if_neg HN.out, if_neg (by simp only; rw [← HQ2.out]; exact hbigv)]; simp only [if_true]; rw [HQ2.out])
                go_wp2_with fail
                go_ret2
                rw [hz.out]
                exact ⟨rfl, HE.out⟩
end
end Go.Proofs.YtfpmapbimhdafaaGreatDoor

namespace Go.Proofs.YtfpmapbimhdafaaGreatDoor
open Go.RowKit
set_option linter.unusedVariables false
set_option linter.unusedSimpArgs false

/-- How many things a sort has. -/
def sizeOfSort (sort : Nat) (sizes : List Int) : Int := if sort = 0 then 2 else rdI sizes sort
/-- Is a number a thing of a sort? -/
def thingB (x : ZInt) (sort : Nat) (sizes : List Int) : Bool := zRight x && (sort == 1 || ((smallZ x).isSome && decide (0 ≤ (smallZ x).getD 0) && decide ((smallZ x).getD 0 < sizeOfSort sort sizes)))

section
attribute [local go_sem] setCell_same
set_option maxRecDepth 100000 in
set_option maxHeartbeats 1000000 in
theorem c_thing (va vs : Value) (x : ZInt) (sort : Nat) (sizes : List Int) (w : World) (O : Nat → Prop) (ha : kZ.agg w O x va) (hs : kInts.one w O sizes vs) (hlt : sort < sizes.length) :
    Calls Tryz.prog 71 #[va, .int .i64 (sort : Int), vs] w fun e w' => e = .returned (.bool (thingB x sort sizes)) ∧ Ext NoB w w' := by
  have ha0 := ha
  obtain ⟨A, c, rfl, hl, hm, hr⟩ := z_open ha
  obtain ⟨B, d, rfl, hl', hm', hr'⟩ := Kd.one_slice hs
  have hmm : sizes.length ≤ 9223372036854775807 := by unfold maxLen at hm'; omega
  have HA := Lib.hid ha0
  have HR := Lib.hid hr'
  clear hr ha ha0 hm hl hs hr' hm'
  go_enter Tryz.func71, Tryz.ntmps71
  go_wp2_with fail
  refine (c_zRight _ x _ O (kZ.aggExt HA.out ((Ext.refl _ _).alloc _))).mono ?_
  rintro e w1 ⟨rfl, he⟩
  have c0 : w1.cell? ⟨w.heap.size, 0, none⟩ = some (.bool x.neg) := he.cell (by go_simp) (fun h => h)
  have c1 : w1.cell? ⟨w.heap.size, 1, none⟩ = some (.slice A x.digs.length c) := he.cell (by go_simp) (fun h => h)
  have HE := Lib.hid (((Ext.refl NoB w).alloc _).trans he)
  clear he
  cases hz : zRight x with
  | false =>
    have HZ : Hid (thingB x sort sizes = false) := by rw [thingB, hz]; rfl
    clear hz
    go_wp2_with fail
    go_ret
    exact ⟨retB HZ.out.symm, HE.out⟩
  | true =>
    have HZ := Lib.hid hz
    have HT : Hid (thingB x sort sizes = (sort == 1 || ((smallZ x).isSome && decide (0 ≤ (smallZ x).getD 0) && decide ((smallZ x).getD 0 < sizeOfSort sort sizes)))) := by rw [thingB, hz]; rfl
    clear hz
    by_cases h1 : sort = 1
    · subst h1
      go_wp2_with fail
      go_ret
      exact ⟨retB (by rw [HT.out]; rfl), HE.out⟩
    · have hb1 : ((sort : Int) == 1) = false := by rw [beq_eq_false_iff_ne]; omega
      have HT2 := Lib.hid (HT.out.trans (by rw [show (sort == 1) = false by simpa using h1, Bool.false_or]))
      clear HT h1
      by_cases h0 : sort = 0
      · subst h0
        go_wp2_with fail
        refine (c_Small _ x _ O (kZ.aggExt HA.out HE.out.no) HZ.out).mono ?_
        rintro e w2 ⟨rfl, he2⟩
        have HE2 := Lib.hid (HE.out.trans he2)
        clear he2
        go_wp2_with fail
        all_goals
          go_ret
          refine ⟨retB ?_, HE2.out⟩
          rw [HT2.out]
          simp [sizeOfSort, *]
          try (intros; first | assumption | omega)
      · have hb0 : ((sort : Int) != 0) = true := by rw [bne_iff_ne]; omega
        obtain ⟨b, off, rfl, _, c2, _⟩ := ints_at HR.out hlt
        replace c2 := HE.out.cell c2 (fun h => h)
        have HT3 := Lib.hid (HT2.out.trans (by rw [sizeOfSort, if_neg h0]))
        clear HT2 h0
        go_wp2_with fail
        refine (c_Small _ x _ O (kZ.aggExt HA.out HE.out.no) HZ.out).mono ?_
        rintro e w2 ⟨rfl, he2⟩
        have HE2 := Lib.hid (HE.out.trans he2)
        clear he2
        go_wp2_with fail
        all_goals
          go_ret
          refine ⟨retB ?_, HE2.out⟩
          rw [HT3.out]
          simp [*]
          try (intros; first | assumption | omega)

set_option maxRecDepth 100000 in
set_option maxHeartbeats 1000000 in
theorem c_lookSame (va vb : Value) (x y : ZInt) (w : World) (O : Nat → Prop) (ha : kZ.agg w O x va) (hb : kZ.agg w O y vb) (hx : zRight x = true) (hy : zRight y = true) :
    Calls Tryz.prog 85 #[va, vb] w fun e w' => e = .returned (.bool (cmpZ x y == 0)) ∧ Ext NoB w w' := by
  have HA := Lib.hid ha
  have HB := Lib.hid hb
  obtain ⟨A, c, rfl⟩ := z_form ha
  obtain ⟨B, d, rfl⟩ := z_form hb
  have HX := Lib.hid hx
  have HY := Lib.hid hy
  clear ha hb hx hy
  go_enter Tryz.func85, Tryz.ntmps85
  go_wp2_with fail
  refine (c_Cmp _ _ x y _ O (kZ.aggExt HA.out (((Ext.refl _ _).alloc _).alloc _)) (kZ.aggExt HB.out (((Ext.refl _ _).alloc _).alloc _)) HX.out HY.out).mono ?_
  rintro e w1 ⟨rfl, he⟩
  have HE := Lib.hid ((((Ext.refl NoB w).alloc _).alloc _).trans he)
  clear he
  go_wp2_with fail
  go_ret
  exact ⟨rfl, HE.out⟩
end
end Go.Proofs.YtfpmapbimhdafaaGreatDoor

namespace Go.Proofs.YtfpmapbimhdafaaGreatDoor
open Go.RowKit
set_option linter.unusedVariables false
set_option linter.unusedSimpArgs false

theorem cmpTo_zero {xs ys : List Int} : ∀ {n : Nat}, cmpTo xs ys n = 0 ↔ ∀ k, k < n → rdI xs k = rdI ys k
  | 0 => by simp [cmpTo]
  | n + 1 => by
    have ih := @cmpTo_zero xs ys n
    rw [cmpTo]
    split
    · rename_i h
      exact ⟨fun h' => by omega, fun h' => by have := h' n (Nat.lt_succ_self _); omega⟩
    · split
      · rename_i h
        exact ⟨fun h' => by omega, fun h' => by have := h' n (Nat.lt_succ_self _); omega⟩
      · rw [ih]
        exact ⟨fun h' k hk => by
          rcases Nat.lt_or_ge k n with h | h
          · exact h' k h
          · obtain rfl : k = n := by omega
            omega, fun h' k hk => h' k (by omega)⟩
theorem cmpDigs_zero {xs ys : List Int} : cmpDigs xs ys = 0 ↔ xs = ys := by
  rw [cmpDigs]
  split
  · rename_i h
    rw [cmpTo_zero]
    constructor
    · intro h'
      apply List.ext_getElem h
      intro k h1 h2
      have := h' k h1
      rwa [rdI_eq h1, rdI_eq h2] at this
    · rintro rfl k _
      rfl
  · rename_i h
    split
    · exact ⟨fun h' => by omega, fun h' => absurd (by rw [h']) h⟩
    · exact ⟨fun h' => by omega, fun h' => absurd (by rw [h']) h⟩
theorem cmpZ_zero {x y : ZInt} : cmpZ x y = 0 ↔ x = y := by
  obtain ⟨s, xs⟩ := x
  obtain ⟨t, ys⟩ := y
  cases s <;> cases t <;> simp [cmpZ, cmpDigs_zero]
  exact ⟨fun h => h.symm, fun h => h.symm⟩

theorem row_z {w : World} {O : Nat → Prop} {b off : Nat} {xs : List ZInt} (h : kZ.row w O b off xs) {i : Nat} {x : ZInt} (hx : xs[i]? = some x) :
    ∃ A c, (w.cell? ⟨b, off + i * 2, none⟩ = some (.bool x.neg) ∧ w.cell? ⟨b, off + i * 2 + 1, none⟩ = some (.slice A x.digs.length c)) ∧ kDigs.one w O x.digs (.slice A x.digs.length c) := by
  obtain ⟨cs, hrep, hc⟩ := h i x hx
  obtain ⟨v, rfl, h1⟩ := kZ_iff.1 hrep
  have h2 := h1
  obtain ⟨A, c, rfl, _⟩ := Kd.one_slice h2
  exact ⟨A, c, ⟨hc 0 _ rfl, hc 1 _ rfl⟩, h1⟩
theorem take_succ_eq' {α : Type} {xs ys : List α} {k : Nat} {x : α} (hx : xs[k]? = some x) (hy : ys[k]? = some x) (h : xs.take k = ys.take k) : xs.take (k + 1) = ys.take (k + 1) := by
  rw [List.take_add_one, List.take_add_one, h, hx, hy]
theorem ne_of_at' {α : Type} {xs ys : List α} {k : Nat} {x y : α} (hx : xs[k]? = some x) (hy : ys[k]? = some y) (h : ¬ x = y) : ¬ xs = ys := by
  rintro rfl
  rw [hx] at hy
  exact h (Option.some.inj hy)
def AllRight (xs : List ZInt) : Prop := ∀ x ∈ xs, zRight x = true
theorem AllRight.at_ {xs : List ZInt} (h : AllRight xs) {k : Nat} {x : ZInt} (hx : xs[k]? = some x) : zRight x = true := h x (List.mem_of_getElem? hx)

set_option maxRecDepth 100000 in
set_option maxHeartbeats 1000000 in
theorem c_EqualFunc (va vb : Value) (xs ys : List ZInt) (w : World) (O : Nat → Prop) (ha : kZs.one w O xs va) (hb : kZs.one w O ys vb) (hx : AllRight xs) (hy : AllRight ys) :
    Calls Tryz.prog 86 #[va, vb, .func (.func 85) #[] #[]] w fun e w' => e = .returned (.bool (decide (xs = ys))) ∧ Ext NoB w w' := by
  obtain ⟨A, c, rfl, hl, hm, hr⟩ := Kd.one_slice ha
  obtain ⟨B, d, rfl, hl', hm', hr'⟩ := Kd.one_slice hb
  have h1 : xs.length ≤ 9223372036854775807 := by unfold maxLen at hm; omega
  have h2 : ys.length ≤ 9223372036854775807 := by unfold maxLen at hm'; omega
  have HA := Lib.hid hr
  have HB := Lib.hid hr'
  have HX := Lib.hid hx
  have HY := Lib.hid hy
  clear hr hr' ha hb hx hy hm hm' hl hl'
  by_cases hne : xs.length = ys.length
  · have hb : ((xs.length : Int) != ys.length) = false := by rw [hne]; simp
    have HN := Lib.hid hne; clear hne
    go_enter Tryz.func86, Tryz.ntmps86
    go_wp2_with fail
    go_loopw [17] (fun i wr => ∃ k : Nat, k ≤ xs.length ∧ i = .int .i64 k ∧ Hid (xs.take k = ys.take k) ∧ Hid (Ext NoB w wr)) (fun i _ => xs.length - (intOf i).toNat)
    case atStart => exact ⟨0, Nat.zero_le _, rfl, Lib.hid (by simp), Lib.hid (Ext.refl _ _)⟩
    case round =>
      obtain ⟨k, hk, rfl, HK, HE⟩ := hrel
      by_cases hlt : k < xs.length
      · have hy : k < ys.length := by have := HN.out; omega
        obtain ⟨b, off, rfl, hnb, hrow⟩ := HA.out (ne_nil_of_lt hlt)
        obtain ⟨b', off', rfl, hnb', hrow'⟩ := HB.out (ne_nil_of_lt hy)
        obtain ⟨x, hxk⟩ := at_some hlt
        obtain ⟨y, hyk⟩ := at_some hy
        obtain ⟨Ax, cx, ⟨c0, c1⟩, hvx⟩ := row_z hrow hxk
        obtain ⟨Ay, cy, ⟨d0, d1⟩, hvy⟩ := row_z hrow' hyk
        replace c0 := HE.out.cell c0 (fun h => h)
        replace c1 := HE.out.cell c1 (fun h => h)
        replace d0 := HE.out.cell d0 (fun h => h)
        replace d1 := HE.out.cell d1 (fun h => h)
        have l1 := cell_lt c0
        have l2 := cell_lt d0
        have HVX := Lib.hid hvx
        have HVY := Lib.hid hvy
        have RX := Lib.hid (HX.out.at_ hxk)
        have RY := Lib.hid (HY.out.at_ hyk)
        have KX := Lib.hid hxk
        have KY := Lib.hid hyk
        clear hvx hvy hrow hrow' hxk hyk hnb hnb'
        go_wp2_with fail
        refine (c_lookSame _ _ x y _ O (zv_mk (kDigs.oneExt HVX.out ((HE.out.alloc _).alloc _).no)) (zv_mk (kDigs.oneExt HVY.out ((HE.out.alloc _).alloc _).no)) RX.out RY.out).mono ?_
        rintro e w2 ⟨rfl, he⟩
        have HE2 := Lib.hid (((HE.out.alloc _).alloc _).trans he)
        clear he
        by_cases heq : x = y
        · have hbz : (cmpZ x y == 0) = true := by rw [beq_iff_eq, cmpZ_zero]; exact heq
          have HQ := Lib.hid heq
          clear heq
          go_wp2_with fail
          exact ⟨⟨k + 1, by omega, by go_num, take_succ_eq' KX.out (by rw [HQ.out]; exact KY.out) HK.out, HE2⟩, by simp [intOf]; omega⟩
        · have hbz : (cmpZ x y == 0) = false := by rw [beq_eq_false_iff_ne]; exact fun h => heq (cmpZ_zero.1 h)
          have HQ := Lib.hid heq
          clear heq
          go_wp2_with fail
          go_ret
          exact ⟨retB (decide_eq_false (ne_of_at' KX.out KY.out HQ.out)).symm, HE2.out⟩
      · go_wp2_with fail
        go_ret
        refine ⟨?_, HE.out⟩
        have h := HK.out
        rw [List.take_of_length_le (by omega), List.take_of_length_le (by have := HN.out; omega)] at h
        exact retB (decide_eq_true h).symm
  · have hb : ((xs.length : Int) != ys.length) = true := by rw [bne_iff_ne]; omega
    have HN := Lib.hid hne; clear hne
    go_enter Tryz.func86, Tryz.ntmps86
    go_wp2_with fail
    go_ret
    exact ⟨retB (decide_eq_false (fun e => HN.out (by rw [e]))).symm, Ext.refl _ _⟩

theorem row_row {w : World} {O : Nat → Prop} {b off : Nat} {xs : List TRow} (h : kRow.row w O b off xs) {i : Nat} {x : TRow} (hx : xs[i]? = some x) :
    ∃ A c B d, (w.cell? ⟨b, off + i * 3, none⟩ = some (.slice A x.args.length c) ∧ w.cell? ⟨b, off + i * 3 + 1, none⟩ = some (.bool x.value.neg) ∧ w.cell? ⟨b, off + i * 3 + 2, none⟩ = some (.slice B x.value.digs.length d)) ∧
      kZs.one w O x.args (.slice A x.args.length c) ∧ kZ.agg w O x.value (.agg #[.bool x.value.neg, .slice B x.value.digs.length d]) := by
  obtain ⟨cs, hrep, hc⟩ := h i x hx
  obtain ⟨v1, v2, rfl, h1, h2⟩ := kRow_iff.1 hrep
  have h1' := h1
  have h2' := h2
  obtain ⟨A, c, rfl, _⟩ := Kd.one_slice h1'
  obtain ⟨B, d, rfl, _⟩ := Kd.one_slice h2'
  exact ⟨A, c, B, d, ⟨hc 0 _ rfl, hc 1 _ rfl, hc 2 _ rfl⟩, h1, zv_mk h2⟩
theorem table_open {w : World} {O : Nat → Prop} {t : Table} {v : Value} (h : kTable.agg w O t v) :
    ∃ A c B d, v = .agg #[.slice A t.rows.length c, .bool t.els.neg, .slice B t.els.digs.length d] ∧ c ≤ maxLen ∧ t.rows.length ≤ c ∧ (t.rows ≠ [] → ∃ b off, A = some ⟨b, off, none⟩ ∧ ¬ O b ∧ kRow.row w O b off t.rows) ∧ kZ.agg w O t.els (.agg #[.bool t.els.neg, .slice B t.els.digs.length d]) := by
  obtain ⟨cs, rfl, h⟩ := h
  obtain ⟨v1, v2, rfl, h1, h2⟩ := kTable_iff.1 h
  have h2' := h2
  obtain ⟨A, c, rfl, h3, h4, h5⟩ := Kd.one_slice h1
  obtain ⟨B, d, rfl, _⟩ := Kd.one_slice h2'
  exact ⟨A, c, B, d, rfl, h4, h3, h5, zv_mk h2⟩

/-- What a table gives: the first row with these arguments, or else. -/
def lookRows (args : List ZInt) (els : ZInt) : List TRow → ZInt
  | [] => els
  | r :: l => if r.args = args then r.value else lookRows args els l
def lookT (t : Table) (args : List ZInt) : ZInt := lookRows args t.els t.rows
theorem lookRows_drop_hit {args : List ZInt} {els : ZInt} {rows : List TRow} {k : Nat} {r : TRow} (h : rows[k]? = some r) (ha : r.args = args) : lookRows args els (rows.drop k) = r.value := by
  have hk : k < rows.length := (List.getElem?_eq_some_iff.1 h).1
  rw [List.drop_eq_getElem_cons hk, (List.getElem?_eq_some_iff.1 h).2, lookRows, if_pos ha]
theorem lookRows_drop_miss {args : List ZInt} {els : ZInt} {rows : List TRow} {k : Nat} {r : TRow} (h : rows[k]? = some r) (ha : ¬ r.args = args) : lookRows args els (rows.drop k) = lookRows args els (rows.drop (k + 1)) := by
  have hk : k < rows.length := (List.getElem?_eq_some_iff.1 h).1
  rw [List.drop_eq_getElem_cons hk, (List.getElem?_eq_some_iff.1 h).2, lookRows, if_neg ha]
/-- The arguments of all rows may be. -/
def RowsRight (rows : List TRow) : Prop := ∀ r ∈ rows, AllRight r.args

set_option maxRecDepth 100000 in
set_option maxHeartbeats 2000000 in
theorem c_look (vt va : Value) (t : Table) (args : List ZInt) (w : World) (O : Nat → Prop) (ht : kTable.agg w O t vt) (ha : kZs.one w O args va) (hr : RowsRight t.rows) (hx : AllRight args) (hO : OldO O w) :
    Calls Tryz.prog 62 #[vt, va] w fun e w' => ∃ v, e = .returned v ∧ kZ.agg w' O (lookT t args) v ∧ Ext NoB w w' := by
  obtain ⟨A, c, B, d, rfl, hm, hl, hrow, hels⟩ := table_open ht
  have hm' : t.rows.length ≤ 9223372036854775807 := by unfold maxLen at hm; omega
  have HA := Lib.hid ha
  have HR := Lib.hid hrow
  have HE := Lib.hid hels
  have HRR := Lib.hid hr
  have HX := Lib.hid hx
  have HO := Lib.hid hO
  clear ha hrow hels hr hx hm hl ht hO
  have hu := Tryz.underlying60
  go_enter Tryz.func62, Tryz.ntmps62
  go_wp2_with fail
  go_loopw [11] (fun i wr => ∃ k : Nat, k ≤ t.rows.length ∧ i = .int .i64 k ∧ Hid (lookT t args = lookRows args t.els (t.rows.drop k)) ∧ Hid (Ext NoB w wr) ∧
      wr.cell? ⟨w.heap.size, 1, none⟩ = some (.bool t.els.neg) ∧ wr.cell? ⟨w.heap.size, 2, none⟩ = some (.slice B t.els.digs.length d) ∧
      wr.cell? ⟨w.heap.size + 1, 0, none⟩ = some (.bool false) ∧ wr.cell? ⟨w.heap.size + 1, 1, none⟩ = some (.slice none 0 0) ∧ wr.frozen? ⟨w.heap.size + 1, 0, none⟩ = false ∧ wr.frozen? ⟨w.heap.size + 1, 1, none⟩ = false) (fun i _ => t.rows.length - (intOf i).toNat)
  case atStart => exact ⟨0, Nat.zero_le _, rfl, Lib.hid rfl, Lib.hid (((Ext.refl _ _).alloc _).alloc _), by go_simp, by go_simp, by go_simp, by go_simp, by go_simp, by go_simp⟩
  case round =>
    obtain ⟨k, hk, rfl, HK, HX1, e0, e1, d0, d1, g0, g1⟩ := hrel
    have l0 := cell_lt e0
    have l1 := cell_lt d0
    by_cases hlt : k < t.rows.length
    · obtain ⟨b, off, rfl, hnb, hrow⟩ := HR.out (ne_nil_of_lt hlt)
      obtain ⟨r, hrk⟩ := at_some hlt
      obtain ⟨A1, c1, B1, d1', ⟨r0, r1, r2⟩, hargs, hval⟩ := row_row hrow hrk
      replace r0 := HX1.out.cell r0 (fun h => h)
      replace r1 := HX1.out.cell r1 (fun h => h)
      replace r2 := HX1.out.cell r2 (fun h => h)
      have lb := cell_lt r0
      have HARGS := Lib.hid hargs
      have HVAL := Lib.hid hval
      have HRK := Lib.hid hrk
      have HRA := Lib.hid (HRR.out r (List.mem_of_getElem? hrk))
      clear hargs hval hrow hrk hnb
      go_wp2_with fail
      refine (c_EqualFunc _ va r.args args _ O (kZs.oneExt HARGS.out (HX1.out.alloc _).no) (kZs.oneExt HA.out (HX1.out.alloc _).no) HRA.out HX.out).mono ?_
      rintro e w2 ⟨rfl, he⟩
      have hw2 : Hid (Ext NoB w w2) := (HX1.out.alloc _).trans he
      have e0' := (((Ext.refl NoB wr).alloc _).trans he).cell e0 (fun h => h)
      have e1' := (((Ext.refl NoB wr).alloc _).trans he).cell e1 (fun h => h)
      have d0' := (((Ext.refl NoB wr).alloc _).trans he).cell d0 (fun h => h)
      have d1'' := (((Ext.refl NoB wr).alloc _).trans he).cell d1 (fun h => h)
      have g0' := ((((Ext.refl NoB wr).alloc _).trans he).frozen l1 (fun h => h)).trans g0
      have g1' := ((((Ext.refl NoB wr).alloc _).trans he).frozen l1 (fun h => h)).trans g1
      have q1 : w2.cell? ⟨wr.heap.size, 1, none⟩ = some (.bool r.value.neg) := he.cell (by go_simp) (fun h => h)
      have q2 : w2.cell? ⟨wr.heap.size, 2, none⟩ = some (.slice B1 r.value.digs.length d1') := he.cell (by go_simp) (fun h => h)
      clear he e0 e1 d0 d1 g0 g1
      by_cases heq : r.args = args
      · have HV := Lib.hid (HK.out.trans (lookRows_drop_hit HRK.out heq))
        have hbq : decide (r.args = args) = true := decide_eq_true heq
        clear heq
        go_wp2_with fail
        refine bodyPost_ret (v := .agg #[.bool r.value.neg, .slice B1 r.value.digs.length d1']) (by simp [results, Tryz.results62, go_sem, d0', d1'', g0', g1']) rfl ⟨_, rfl, ?_, (hw2.out.setNew (Nat.le_succ _) _).setNew (Nat.le_succ _) _⟩
        rw [HV.out]
        exact kZ.aggMinus (kZ.aggPlus HVAL.out hw2.out.no (Nat.le_succ _)) (Ext.set2 _ _ _ _ _)
      · have HV := Lib.hid (HK.out.trans (lookRows_drop_miss HRK.out heq))
        have hbq : decide (r.args = args) = false := decide_eq_false heq
        clear heq
        go_wp2_with fail
        exact ⟨⟨k + 1, by omega, by go_num, HV, hw2, e0', e1', d0', d1'', g0', g1'⟩, by simp [intOf]; omega⟩
    · have HV := Lib.hid (HK.out.trans (by rw [List.drop_of_length_le (by omega), lookRows]))
      go_wp2_with fail
      refine bodyPost_ret (v := .agg #[.bool t.els.neg, .slice B t.els.digs.length d]) (by simp [results, Tryz.results62, go_sem, d0, d1, g0, g1]) rfl ⟨_, rfl, ?_, (HX1.out.setNew (Nat.le_succ _) _).setNew (Nat.le_succ _) _⟩
      rw [HV.out]
      exact kZ.aggMinus (kZ.aggPlus HE.out HX1.out.no (Nat.le_succ _)) (Ext.set2 _ _ _ _ _)
end Go.Proofs.YtfpmapbimhdafaaGreatDoor
