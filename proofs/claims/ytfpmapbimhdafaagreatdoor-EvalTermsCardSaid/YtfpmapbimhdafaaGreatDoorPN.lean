/- Digits to any base, and what they are worth; numbers as decimal digits. No program in sight. Contracts: an integer as decimal digits, a small number, which of two is greater, for the reference. Contracts: whether a model may be, for the reference. Contracts: whether a model may be, for the reference: all of it. -/
import Derived.Test.YtfpmapbimhdafaaGreatDoorPH
import Derived.Test.YtfpmapbimhdafaaGreatDoorPI
namespace Go.Proofs.YtfpmapbimhdafaaGreatDoor
open Go.RowKit
set_option linter.unusedVariables false
set_option linter.unusedSimpArgs false

/-- What digits are worth, the least first. -/
def dv (B : Int) : List Int → Int
  | [] => 0
  | d :: l => d + B * dv B l
def Dig (B : Int) (l : List Int) : Prop := ∀ d ∈ l, 0 ≤ d ∧ d < B
theorem Dig.nil (B : Int) : Dig B [] := fun d h => by cases h
theorem Dig.cons {B d : Int} {l : List Int} (h : Dig B (d :: l)) : 0 ≤ d ∧ d < B ∧ Dig B l := ⟨(h d (List.mem_cons_self ..)).1, (h d (List.mem_cons_self ..)).2, fun x hx => h x (List.mem_cons_of_mem _ hx)⟩
theorem Dig.mk {B d : Int} {l : List Int} (h0 : 0 ≤ d) (h1 : d < B) (h : Dig B l) : Dig B (d :: l) := fun x hx => by
  rcases List.mem_cons.1 hx with rfl | hx
  · exact ⟨h0, h1⟩
  · exact h x hx
theorem Dig.append {B : Int} {l m : List Int} (h : Dig B l) (k : Dig B m) : Dig B (l ++ m) := fun x hx => (List.mem_append.1 hx).elim (h x) (k x)
theorem Dig.snoc {B d : Int} {l : List Int} (h : Dig B l) (h0 : 0 ≤ d) (h1 : d < B) : Dig B (l ++ [d]) := h.append (Dig.mk h0 h1 (Dig.nil B))
theorem Dig.take {B : Int} {l : List Int} (h : Dig B l) (n : Nat) : Dig B (l.take n) := fun x hx => h x (List.mem_of_mem_take hx)
theorem Dig.at {B : Int} {l : List Int} (h : Dig B l) {k : Nat} (hk : k < l.length) : 0 ≤ rdI l k ∧ rdI l k < B := by
  rw [rdI_eq hk]
  exact h _ (List.getElem_mem hk)
theorem Dig.of {B : Int} {l : List Int} (h : ∀ k, k < l.length → 0 ≤ rdI l k ∧ rdI l k < B) : Dig B l := fun x hx => by
  obtain ⟨k, hk, rfl⟩ := List.getElem_of_mem hx
  have := h k hk
  rwa [rdI_eq hk] at this
theorem dig_of_digR {l : List Int} (h : DigR l) : Dig 1000000000 l := Dig.of h
theorem pow_pos' {B : Int} (hB : 1 < B) : ∀ n : Nat, 0 < B ^ n
  | 0 => by simp
  | n + 1 => by rw [Int.pow_succ]; exact Int.mul_pos (pow_pos' hB n) (by omega)
theorem dv_nonneg {B : Int} (hB : 1 < B) : ∀ {l : List Int}, Dig B l → 0 ≤ dv B l
  | [], _ => Int.le_refl _
  | d :: l, h => by
    obtain ⟨h0, _, hl⟩ := h.cons
    have := dv_nonneg hB hl
    rw [dv]
    have := Int.mul_nonneg (show 0 ≤ B by omega) this
    omega
theorem dv_lt {B : Int} (hB : 1 < B) : ∀ {l : List Int}, Dig B l → dv B l < B ^ l.length
  | [], _ => by simp [dv]
  | d :: l, h => by
    obtain ⟨h0, h1, hl⟩ := h.cons
    have ih := dv_lt hB hl
    rw [dv, List.length_cons, Int.pow_succ, Int.mul_comm _ B]
    have : B * (dv B l + 1) ≤ B * B ^ l.length := Int.mul_le_mul_of_nonneg_left (by omega) (by omega)
    rw [Int.mul_add, Int.mul_one] at this
    omega
theorem dv_append {B : Int} : ∀ {l m : List Int}, dv B (l ++ m) = dv B l + B ^ l.length * dv B m
  | [], m => by simp [dv]
  | d :: l, m => by
    rw [List.cons_append, dv, dv_append, dv, List.length_cons, Int.pow_succ, Int.mul_add, Int.add_assoc, ← Int.mul_assoc, Int.mul_comm B (B ^ l.length)]
theorem dv_snoc {B d : Int} {l : List Int} : dv B (l ++ [d]) = dv B l + B ^ l.length * d := by rw [dv_append]; simp [dv]
theorem take_snoc_rd {l : List Int} {k : Nat} (hk : k < l.length) : l.take (k + 1) = l.take k ++ [rdI l k] := by
  rw [rdI_eq hk, List.take_succ_eq_append_getElem hk]
theorem dv_take {B : Int} {l : List Int} {k : Nat} (hk : k < l.length) : dv B (l.take (k + 1)) = dv B (l.take k) + B ^ k * rdI l k := by
  rw [take_snoc_rd hk, dv_snoc, List.length_take, Nat.min_eq_left (by omega)]

/-! Without noughts at the end. -/
theorem rdI_cons {d : Int} {l : List Int} {k : Nat} : rdI (d :: l) (k + 1) = rdI l k := by simp [rdI, List.getD_eq_getElem?_getD]
theorem cutTo_cons {d : Int} {l : List Int} : ∀ k, cutTo (d :: l) (k + 1) = if cutTo l k = 0 then (if d = 0 then 0 else 1) else cutTo l k + 1
  | 0 => by
    have : rdI (d :: l) 0 = d := by simp [rdI]
    simp [cutTo, this]
  | k + 1 => by
    rw [cutTo, rdI_cons, cutTo_cons k, cutTo]
    by_cases h : rdI l k = 0
    · rw [if_pos h, if_pos h]
    · rw [if_neg h, if_neg h]
      simp
theorem cutL_cons {d : Int} {l : List Int} : cutL (d :: l) = if cutL l = [] then (if d = 0 then [] else [d]) else d :: cutL l := by
  have h0 : cutL l = [] ↔ cutTo l l.length = 0 := by
    rw [← cutL_len]
    exact List.length_eq_zero_iff.symm
  rw [cutL, List.length_cons, cutTo_cons]
  by_cases h : cutTo l l.length = 0
  · rw [if_pos h, if_pos (h0.2 h)]
    split <;> simp
  · rw [if_neg h, if_neg (fun e => h (h0.1 e))]
    simp [cutL]
theorem cutL_nil : cutL [] = [] := rfl
theorem dv_cut {B : Int} : ∀ l : List Int, dv B (cutL l) = dv B l
  | [] => rfl
  | d :: l => by
    have ih := dv_cut (B := B) l
    rw [cutL_cons, dv]
    split
    · rename_i h
      rw [h, dv] at ih
      rw [← ih]
      split
      · subst_vars; simp [dv]
      · simp [dv]
    · rw [dv, ih]
theorem dig_cut {B : Int} {l : List Int} (h : Dig B l) : Dig B (cutL l) := h.take _
/-- The last digit is no nought. -/
def Cutd (l : List Int) : Prop := cutL l = l
theorem cutd_cut : ∀ l : List Int, Cutd (cutL l)
  | [] => rfl
  | d :: l => by
    have ih : cutL (cutL l) = cutL l := cutd_cut l
    rw [Cutd, cutL_cons]
    by_cases h : cutL l = []
    · rw [if_pos h]
      by_cases hd : d = 0
      · rw [if_pos hd]; rfl
      · rw [if_neg hd, cutL_cons, if_pos cutL_nil, if_neg hd]
    · rw [if_neg h, cutL_cons, ih, if_neg h]
theorem cutd_last {l : List Int} (h : Cutd l) (hl : 0 < l.length) : rdI l (l.length - 1) ≠ 0 := fun e => by
  have h1 := cutL_len l
  rw [h] at h1
  obtain ⟨n, hn⟩ : ∃ n, l.length = n + 1 := ⟨l.length - 1, by omega⟩
  rw [hn, Nat.add_sub_cancel] at e
  rw [hn, cutTo_zero e] at h1
  have := cutTo_le l n
  omega
theorem cutd_of_last {l : List Int} (h : 0 < l.length → rdI l (l.length - 1) ≠ 0) : Cutd l := by
  rcases Nat.eq_zero_or_pos l.length with h0 | h0
  · rw [List.length_eq_zero_iff.1 h0]; rfl
  · obtain ⟨n, hn⟩ : ∃ n, l.length = n + 1 := ⟨l.length - 1, by omega⟩
    have := h h0
    rw [hn, Nat.add_sub_cancel] at this
    rw [Cutd, cutL, hn, cutTo_stop this, ← hn, List.take_of_length_le (Nat.le_refl _)]
theorem dv_ge {B : Int} (hB : 1 < B) {l : List Int} (h : Dig B l) (hc : Cutd l) {n : Nat} (hn : l.length = n + 1) : B ^ n ≤ dv B l := by
  have h1 := dv_take (B := B) (l := l) (k := n) (by omega)
  rw [← hn, List.take_of_length_le (Nat.le_refl _)] at h1
  have h2 := cutd_last hc (by omega)
  rw [hn, Nat.add_sub_cancel] at h2
  have h3 := h.at (show n < l.length by omega)
  have h4 := dv_nonneg hB (h.take n)
  have h5 : B ^ n * 1 ≤ B ^ n * rdI l n := Int.mul_le_mul_of_nonneg_left (by omega) (Int.le_of_lt (pow_pos' hB n))
  rw [h1]
  omega
theorem pow_mono {B : Int} (hB : 1 < B) {a b : Nat} (h : a ≤ b) : B ^ a ≤ B ^ b := by
  obtain ⟨c, rfl⟩ := Nat.exists_eq_add_of_le h
  rw [Int.pow_add]
  have h1 := pow_pos' hB a
  have h2 := pow_pos' hB c
  have : B ^ a * 1 ≤ B ^ a * B ^ c := Int.mul_le_mul_of_nonneg_left (by omega) (by omega)
  omega

/-! Held against one another. -/
def sgn (z : Int) : Int := if z < 0 then -1 else if 0 < z then 1 else 0
theorem sgn_lt {a b : Int} (h : a < b) : sgn (a - b) = -1 := by rw [sgn, if_pos (by omega)]
theorem sgn_gt {a b : Int} (h : b < a) : sgn (a - b) = 1 := by rw [sgn, if_neg (by omega), if_pos (by omega)]
theorem sgn_zero {z : Int} : sgn z = 0 ↔ z = 0 := by
  rw [sgn]
  split
  · omega
  · split <;> omega
theorem sgn_neg {z : Int} : sgn (-z) = -sgn z := by
  rw [sgn, sgn]
  by_cases h : z < 0
  · rw [if_pos h, if_neg (by omega), if_pos (by omega)]; rfl
  · rw [if_neg h]
    by_cases h2 : 0 < z
    · rw [if_pos h2, if_pos (by omega)]
    · rw [if_neg h2, if_neg (by omega), if_neg (by omega)]; rfl
theorem cmpTo_val {B : Int} (hB : 1 < B) {xs ys : List Int} (hx : Dig B xs) (hy : Dig B ys) : ∀ n, n ≤ xs.length → n ≤ ys.length → cmpTo xs ys n = sgn (dv B (xs.take n) - dv B (ys.take n))
  | 0, _, _ => by simp [cmpTo, sgn, dv]
  | n + 1, h1, h2 => by
    have ih := cmpTo_val hB hx hy n (by omega) (by omega)
    have lx := dv_lt hB (hx.take n)
    have ly := dv_lt hB (hy.take n)
    have nx := dv_nonneg hB (hx.take n)
    have ny := dv_nonneg hB (hy.take n)
    rw [List.length_take, Nat.min_eq_left (by omega)] at lx ly
    rw [dv_take (by omega), dv_take (by omega), cmpTo]
    by_cases a : rdI xs n < rdI ys n
    · have : B ^ n * (rdI xs n + 1) ≤ B ^ n * rdI ys n := Int.mul_le_mul_of_nonneg_left (by omega) (Int.le_of_lt (pow_pos' hB n))
      rw [Int.mul_add, Int.mul_one] at this
      rw [if_pos a, sgn_lt (by omega)]
    · rw [if_neg a]
      by_cases b : rdI ys n < rdI xs n
      · have : B ^ n * (rdI ys n + 1) ≤ B ^ n * rdI xs n := Int.mul_le_mul_of_nonneg_left (by omega) (Int.le_of_lt (pow_pos' hB n))
        rw [Int.mul_add, Int.mul_one] at this
        rw [if_pos b, sgn_gt (by omega)]
      · rw [if_neg b, ih, show rdI xs n = rdI ys n by omega]
        congr 1
        omega
theorem cmpDigs_val {B : Int} (hB : 1 < B) {xs ys : List Int} (hx : Dig B xs) (hy : Dig B ys) (cx : Cutd xs) (cy : Cutd ys) : cmpDigs xs ys = sgn (dv B xs - dv B ys) := by
  rw [cmpDigs]
  by_cases h : xs.length = ys.length
  · rw [if_pos h, cmpTo_val hB hx hy _ (Nat.le_refl _) (by omega), List.take_of_length_le (Nat.le_refl _), List.take_of_length_le (by omega)]
  · rw [if_neg h]
    by_cases h1 : xs.length < ys.length
    · rw [if_pos h1]
      obtain ⟨n, hn⟩ : ∃ n, ys.length = n + 1 := ⟨ys.length - 1, by omega⟩
      have a := dv_ge hB hy cy hn
      have b := dv_lt hB hx
      have c := pow_mono hB (show xs.length ≤ n by omega)
      rw [sgn_lt (by omega)]
    · rw [if_neg h1]
      obtain ⟨n, hn⟩ : ∃ n, xs.length = n + 1 := ⟨xs.length - 1, by omega⟩
      have a := dv_ge hB hx cx hn
      have b := dv_lt hB hy
      have c := pow_mono hB (show ys.length ≤ n by omega)
      rw [sgn_gt (by omega)]
theorem dv_inj {B : Int} (hB : 1 < B) {xs ys : List Int} (hx : Dig B xs) (hy : Dig B ys) (cx : Cutd xs) (cy : Cutd ys) (h : dv B xs = dv B ys) : xs = ys := by
  have h1 := cmpDigs_val hB hx hy cx cy
  rw [h, Int.sub_self] at h1
  exact cmpDigs_zero.1 h1

/-! An integer's value. -/
def zval (x : ZInt) : Int := if x.neg then -dv 1000000000 x.digs else dv 1000000000 x.digs
theorem nine : (1 : Int) < 1000000000 := by decide
theorem ten : (1 : Int) < 10 := by decide
theorem zok_cut {x : ZInt} (h : ZOk x) : Dig 1000000000 x.digs ∧ Cutd x.digs ∧ (x.neg = true → 0 < dv 1000000000 x.digs) := by
  have hd := dig_of_digR h.2
  have hr := h.1
  have hc : Cutd x.digs := cutd_of_last fun h0 => by
    rw [zRight, if_neg (by omega), Bool.and_eq_true] at hr
    simpa using hr.2
  refine ⟨hd, hc, fun hn => ?_⟩
  rcases Nat.eq_zero_or_pos x.digs.length with h0 | h0
  · rw [zRight, if_pos h0, hn] at hr
    cases hr
  · obtain ⟨n, hn⟩ : ∃ n, x.digs.length = n + 1 := ⟨x.digs.length - 1, by omega⟩
    have a := dv_ge nine hd hc hn
    have b := pow_pos' nine n
    omega
theorem zval_inj {x y : ZInt} (hx : ZOk x) (hy : ZOk y) (h : zval x = zval y) : x = y := by
  obtain ⟨dx, cx, nx⟩ := zok_cut hx
  obtain ⟨dy, cy, ny⟩ := zok_cut hy
  have px := dv_nonneg nine dx
  have py := dv_nonneg nine dy
  obtain ⟨s, xs⟩ := x
  obtain ⟨t, ys⟩ := y
  simp only [zval] at *
  cases s <;> cases t <;> simp at h nx ny
  · rw [dv_inj nine dx dy cx cy h]
  · omega
  · omega
  · rw [dv_inj nine dx dy cx cy (by omega)]
theorem zval_neg {x : ZInt} (hx : ZOk x) : x.neg = decide (zval x < 0) := by
  obtain ⟨dx, cx, nx⟩ := zok_cut hx
  have px := dv_nonneg nine dx
  obtain ⟨s, xs⟩ := x
  simp only [zval] at *
  cases s
  · symm; rw [decide_eq_false_iff_not]; simp; omega
  · symm; rw [decide_eq_true_eq]; have := nx rfl; simp; omega
theorem zval_digs {x : ZInt} (hx : ZOk x) : dv 1000000000 x.digs = (zval x).natAbs := by
  obtain ⟨dx, cx, nx⟩ := zok_cut hx
  have px := dv_nonneg nine dx
  rw [zval]
  split <;> omega

/-! Decimals. -/
def dig10 (n : Nat) : List Int := if h : n = 0 then [] else ((n % 10 : Nat) : Int) :: dig10 (n / 10)
  termination_by n
  decreasing_by omega
theorem dig10_zero : dig10 0 = [] := by rw [dig10]; simp
theorem dig10_pos {n : Nat} (h : n ≠ 0) : dig10 n = ((n % 10 : Nat) : Int) :: dig10 (n / 10) := by rw [dig10, dif_neg h]
theorem dig10_spec : ∀ n : Nat, Dig 10 (dig10 n) ∧ dv 10 (dig10 n) = n ∧ Cutd (dig10 n) := by
  intro n
  induction n using Nat.strongRecOn with
  | _ n ih =>
    by_cases h : n = 0
    · subst h
      rw [dig10_zero]
      exact ⟨Dig.nil _, rfl, rfl⟩
    · obtain ⟨h1, h2, h3⟩ := ih (n / 10) (by omega)
      rw [dig10_pos h]
      refine ⟨Dig.mk (by omega) (by omega) h1, ?_, ?_⟩
      · rw [dv, h2]; omega
      · rw [Cutd, cutL_cons, h3]
        by_cases hz : dig10 (n / 10) = []
        · rw [hz, dv] at h2
          rw [if_pos hz, if_neg (by omega), hz]
        · rw [if_neg hz]
theorem cut_dec {l : List Int} (h : Dig 10 l) : cutL l = dig10 (dv 10 l).toNat := by
  have hn := dv_nonneg ten h
  obtain ⟨h1, h2, h3⟩ := dig10_spec (dv 10 l).toNat
  refine dv_inj ten (dig_cut h) h1 (cutd_cut l) h3 ?_
  rw [dv_cut, h2]
  omega
/-- A number in decimals. -/
def numOf (z : Int) : Num := ⟨decide (z < 0), dig10 z.natAbs⟩
theorem dig10_empty {n : Nat} : (dig10 n).length = 0 ↔ n = 0 := by
  by_cases h : n = 0
  · subst h; rw [dig10_zero]; simp
  · rw [dig10_pos h]; simp [h]
theorem sign_dec {neg : Bool} {l : List Int} (h : Dig 10 l) : signN neg l = numOf (if neg then -dv 10 l else dv 10 l) := by
  have hn := dv_nonneg ten h
  rw [signN, cut_dec h, numOf]
  have hp : decide (0 < (dig10 (dv 10 l).toNat).length) = decide (0 < dv 10 l) := by
    have := @dig10_empty (dv 10 l).toNat
    by_cases h0 : (dv 10 l).toNat = 0
    · rw [decide_eq_false (by omega), decide_eq_false (by omega)]
    · have := fun e => h0 (this.1 e)
      rw [decide_eq_true (by omega), decide_eq_true (by omega)]
  rw [hp]
  cases neg
  · simp only [Bool.false_and, Bool.false_eq_true, if_false]
    rw [show decide (dv 10 l < 0) = false by rw [decide_eq_false_iff_not]; omega]
    congr 2
    omega
  · simp only [Bool.true_and, if_true]
    rw [show decide (-dv 10 l < 0) = decide (0 < dv 10 l) by congr 1; rw [eq_iff_iff]; omega]
    congr 2
    omega
theorem numOf_neg {z : Int} : (numOf z).neg = decide (z < 0) := rfl
theorem numOf_d {z : Int} : (numOf z).d = dig10 z.natAbs := rfl
theorem numOf_dig (z : Int) : Dig 10 (numOf z).d ∧ dv 10 (numOf z).d = z.natAbs ∧ Cutd (numOf z).d := dig10_spec _
theorem numOf_cmp (a b : Int) : cmpDigs (numOf a).d (numOf b).d = sgn ((a.natAbs : Int) - b.natAbs) := by
  obtain ⟨h1, h2, h3⟩ := numOf_dig a
  obtain ⟨k1, k2, k3⟩ := numOf_dig b
  rw [cmpDigs_val ten h1 k1 h3 k3, h2, k2]
/-- How long decimals are. -/
theorem dig10_len {n : Nat} : ∀ {k : Nat}, n < 10 ^ k → (dig10 n).length ≤ k := by
  intro k
  induction k generalizing n with
  | zero => intro h; rw [show n = 0 by simpa using h, dig10_zero]; simp
  | succ k ih =>
    intro h
    by_cases h0 : n = 0
    · subst h0; rw [dig10_zero]; simp
    · rw [dig10_pos h0, List.length_cons]
      have := ih (n := n / 10) (by rw [Nat.pow_succ] at h; omega)
      omega
end Go.Proofs.YtfpmapbimhdafaaGreatDoor

namespace Go.Proofs.YtfpmapbimhdafaaGreatDoor
open Go.RowKit
set_option linter.unusedVariables false
set_option linter.unusedSimpArgs false

theorem Own.lit0 {α : Type} {k : Kd α} {w : World} {base : Nat} {e : TypeId} {O : Nat → Prop} (hb : base ≤ w.heap.size) : Own (w.alloc (.cells #[] e)) base e k O (.slice (some ⟨w.heap.size, 0, none⟩) 0 0) [] :=
  ⟨[], World.ownsRow_lit w #[] 0 hb (by simp [maxLen]) (by simp), .nil⟩

/-- Digits to the base of 10^9 turned into decimals: k of them are done; of the next one j decimals, n is left. -/
def OfOut (xs : List Int) (k : Nat) (os : List Int) : Prop := Dig 10 os ∧ os.length = 9 * k ∧ dv 10 os = dv 1000000000 (xs.take k)
def OfIn (xs : List Int) (k j n : Nat) (os : List Int) : Prop := Dig 10 os ∧ os.length = 9 * k + j ∧ n < 10 ^ (9 - j) ∧ dv 10 os + 10 ^ (9 * k + j) * (n : Int) = dv 1000000000 (xs.take k) + 10 ^ (9 * k) * rdI xs k
theorem OfOut.zero (xs : List Int) : OfOut xs 0 [] := ⟨Dig.nil _, rfl, rfl⟩
theorem OfOut.start {xs : List Int} {k n : Nat} {os : List Int} (h : OfOut xs k os) (hn : rdI xs k = (n : Int)) (hlt : n < 1000000000) : OfIn xs k 0 n os := ⟨h.1, by have := h.2.1; omega, by simpa using hlt, by rw [h.2.2, Nat.add_zero, hn]⟩
theorem OfIn.step {xs : List Int} {k j n : Nat} {os : List Int} (h : OfIn xs k j n os) (hj : j < 9) : OfIn xs k (j + 1) (n / 10) (os ++ [((n % 10 : Nat) : Int)]) := by
  obtain ⟨h1, h2, h3, h4⟩ := h
  refine ⟨h1.snoc (by omega) (by omega), by rw [List.length_append, List.length_singleton]; omega, ?_, ?_⟩
  · rw [show 9 - j = (9 - (j + 1)) + 1 by omega, Nat.pow_succ] at h3
    omega
  · rw [dv_snoc, h2, show 9 * k + (j + 1) = (9 * k + j) + 1 by omega, Int.pow_succ, Int.add_assoc, Int.mul_assoc, ← Int.mul_add, ← h4]
    congr 2
    omega
theorem ten_nine (k : Nat) : (10 : Int) ^ (9 * k) = 1000000000 ^ k := by rw [Int.pow_mul]; rfl
theorem OfIn.done {xs : List Int} {k n : Nat} {os : List Int} (h : OfIn xs k 9 n os) (hk : k < xs.length) : OfOut xs (k + 1) os := by
  obtain ⟨h1, h2, h3, h4⟩ := h
  have hn : n = 0 := by simpa using h3
  subst hn
  refine ⟨h1, by omega, ?_⟩
  rw [dv_take hk, ← ten_nine, ← h4]
  simp
theorem OfOut.all {x : ZInt} {os : List Int} (h : OfOut x.digs x.digs.length os) : signN x.neg os = numOf (zval x) := by
  have h3 := h.2.2
  rw [List.take_of_length_le (Nat.le_refl _)] at h3
  rw [sign_dec h.1, h3]
  rfl

/-- A box of two cells that is read; a result's box. -/
def ZB (g : Nat) (v0 v1 : Value) (W : World) : Prop := W.cell? ⟨g, 0, none⟩ = some v0 ∧ W.cell? ⟨g, 1, none⟩ = some v1
def RB (g : Nat) (W : World) : Prop := W.cell? ⟨g, 0, none⟩ = some (.bool false) ∧ W.cell? ⟨g, 1, none⟩ = some (.slice none 0 0) ∧ W.frozen? ⟨g, 0, none⟩ = false ∧ W.frozen? ⟨g, 1, none⟩ = false
theorem ZB.ext {g : Nat} {v0 v1 : Value} {O' : Nat → Prop} {W W' : World} (h : ZB g v0 v1 W) (he : Ext O' W W') (hn : ¬ O' g) : ZB g v0 v1 W' := ⟨he.cell h.1 hn, he.cell h.2 hn⟩
theorem RB.ext {g : Nat} {O' : Nat → Prop} {W W' : World} (h : RB g W) (he : Ext O' W W') (hn : ¬ O' g) : RB g W' := ⟨he.cell h.1 hn, he.cell h.2.1 hn, (he.frozen (p := ⟨g, 0, none⟩) (cell_lt h.1) hn).trans h.2.2.1, (he.frozen (p := ⟨g, 1, none⟩) (cell_lt h.2.1) hn).trans h.2.2.2⟩
theorem RB.lt {g : Nat} {W : World} (h : RB g W) : g < W.heap.size := cell_lt h.1

section
attribute [local go_sem] setCell_same
set_option maxRecDepth 100000 in
set_option maxHeartbeats 2000000 in
theorem c_rOf (va : Value) (x : ZInt) (w : World) (O : Nat → Prop) (ha : kZ.agg w O x va) (hO : OldO O w) (hx : ZOk x) (lx : x.digs.length ≤ 100000000) :
    Calls Tryz.prog 52 #[va] w fun e w' => ∃ v, e = .returned v ∧ kNum.agg w' O (numOf (zval x)) v ∧ Ext NoB w w' := by
  have ha0 := ha
  obtain ⟨A, c, rfl, hl, hm, hr⟩ := z_open ha
  have HA := Lib.hid hr
  have HX := Lib.hid hx
  have HO := Lib.hid hO
  clear ha ha0 hr hx hO hm hl
  obtain ⟨s, xs⟩ := x
  simp only at HA HX lx ⊢
  go_enter Tryz.func52, Tryz.ntmps52
  go_wp2_with fail
  have HE0 : Hid (Ext NoB w (((w.alloc (.cells #[.bool s, .slice A xs.length c] 50)).alloc (.cells #[.bool false, .slice none 0 0] 53)).alloc (.cells #[] 3))) := Lib.hid ((((Ext.refl _ _).alloc _).alloc _).alloc _)
  have HZ0 : Hid (ZB w.heap.size (.bool s) (.slice A xs.length c) (((w.alloc (.cells #[.bool s, .slice A xs.length c] 50)).alloc (.cells #[.bool false, .slice none 0 0] 53)).alloc (.cells #[] 3))) := Lib.hid ⟨by go_simp, by go_simp⟩
  have HR0 : Hid (RB (w.heap.size + 1) (((w.alloc (.cells #[.bool s, .slice A xs.length c] 50)).alloc (.cells #[.bool false, .slice none 0 0] 53)).alloc (.cells #[] 3))) := Lib.hid ⟨by go_simp, by go_simp, by go_simp, by go_simp⟩
  have HW0 : Hid (Own (((w.alloc (.cells #[.bool s, .slice A xs.length c] 50)).alloc (.cells #[.bool false, .slice none 0 0] 53)).alloc (.cells #[] 3)) (w.heap.size + 2) 3 kInt (Plus O (w.heap.size + 1)) (.slice (some ⟨w.heap.size + 2, 0, none⟩) 0 0) []) := Lib.hid (by
    have := Own.lit0 (k := kInt) (w := (w.alloc (.cells #[.bool s, .slice A xs.length c] 50)).alloc (.cells #[.bool false, .slice none 0 0] 53)) (base := w.heap.size + 2) (e := 3) (O := Plus O (w.heap.size + 1)) (by simp)
    simpa using this)
  go_loopw [3, 4] (fun dd i wr => ∃ (k : Nat) (os : List Int), k ≤ xs.length ∧ i = .int .i64 k ∧ Own wr (w.heap.size + 2) 3 kInt (Plus O (w.heap.size + 1)) dd os ∧ Hid (OfOut xs k os) ∧ Hid (Ext NoB w wr) ∧ Hid (ZB w.heap.size (.bool s) (.slice A xs.length c) wr) ∧ Hid (RB (w.heap.size + 1) wr)) (fun _ i _ => xs.length - (intOf i).toNat)
  case atStart => exact ⟨0, [], Nat.zero_le _, rfl, HW0.out, Lib.hid (OfOut.zero _), HE0, HZ0, HR0⟩
  case round =>
    clear HW0 HE0 HZ0 HR0
    obtain ⟨k, os, hk, rfl, hown, HP, HE, HZ, HR⟩ := hrel
    obtain ⟨z0, z1⟩ := HZ.out
    have lz := cell_lt z0
    have hsz : w.heap.size + 1 < wr.heap.size := HR.out.lt
    by_cases hlt : k < xs.length
    · obtain ⟨b, off, rfl, _, c1, _⟩ := ints_at HA.out hlt
      replace c1 := HE.out.cell c1 (fun h => h)
      obtain ⟨x0, x1⟩ := HX.out.2 k hlt
      simp only at x0 x1
      obtain ⟨n, hn⟩ : ∃ n : Nat, rdI xs k = (n : Int) := ⟨(rdI xs k).toNat, by omega⟩
      have HS := Lib.hid (HP.out.start hn (by omega))
      rw [hn] at c1
      have hn9 : n < 1000000000 := by omega
      have lc := cell_lt c1
      clear x0 x1 hn
      go_wp2_with fail
      clear c1 lc
      go_loopw [3, 5, 6] (fun dd nn j wq => ∃ (i n : Nat) (os : List Int), i ≤ 9 ∧ n < 1000000000 ∧ j = .int .i64 i ∧ nn = .int .i64 n ∧ Own wq (w.heap.size + 2) 3 kInt (Plus O (w.heap.size + 1)) dd os ∧ Hid (OfIn xs k i n os) ∧ Hid (Ext NoB w wq) ∧ Hid (ZB w.heap.size (.bool s) (.slice (some ⟨b, off, none⟩) xs.length c) wq) ∧ Hid (RB (w.heap.size + 1) wq)) (fun _ _ j _ => 9 - (intOf j).toNat)
      case atStart => exact ⟨0, n, os, by omega, hn9, rfl, rfl, hown, HS, HE, HZ, HR⟩
      case round =>
        clear hown HS HE HZ HR HP hsz z0 z1 lz hn9
        obtain ⟨j, n, os, hj, hn9, rfl, rfl, hown, HP, HE, HZ, HR⟩ := hrel
        obtain ⟨z0, z1⟩ := HZ.out
        have lz := cell_lt z0
        have hsz : w.heap.size + 1 < wr.heap.size := HR.out.lt
        by_cases hja : j < 9
        · have HS := Lib.hid (HP.out.step hja)
          have HL : Hid (os.length ≤ 900000000) := Lib.hid (by have := HP.out.2.1; omega)
          go_wp2_with (at_builtin; refine wpl_append1 kInt Nat.one_pos rfl (.tmp 25) (.tmp 28) 28 rfl (w.heap.size + 2) 3 _ 8 Tryz.underlying28 info_int rfl (Plus O (w.heap.size + 1)) _ rfl os hown rfl ((n % 10 : Nat) : Int) [_] ⟨rfl, wf_i (by omega) (by omega)⟩ (old_plus HO.out HE.out hsz) (by omega) (by have := HL.out; omega) (by omega) ?_; intro v2 w2 hO2 hE2 hat2)
          have HE2 := Lib.hid (HE.out.then hE2 (fun i hi h => by have := (hown.base h).1; omega))
          have HZ2 := Lib.hid (HZ.out.ext hE2 (fun h => by have := (hown.base h).1; omega))
          have HR2 := Lib.hid (HR.out.ext hE2 (fun h => by have := (hown.base h).1; omega))
          clear hE2 hat2
          exact ⟨⟨j + 1, n / 10, _, by omega, by omega, by go_num, by go_num, hO2, HS, HE2, HZ2, HR2⟩, by simp [intOf]; omega⟩
        · obtain rfl : j = 9 := by omega
          have HP2 := Lib.hid (HP.out.done hlt)
          clear hja
          go_wp2_with fail
          exact ⟨⟨k + 1, _, by omega, by go_num, hown, HP2, HE, HZ, HR⟩, by simp [intOf]; omega⟩
    · obtain rfl : k = xs.length := by omega
      have HF := Lib.hid (HP.out.all (x := ⟨s, xs⟩))
      obtain ⟨Ad, cd, rfl, hld, hmd⟩ := hown.shape
      have HV := Lib.hid (hown.slice (pos := Nat.one_pos) (fun b hb => hb.elim (fun hb => Nat.lt_of_lt_of_le (HO.out b hb) (by omega)) (fun e => by omega)))
      clear hown hld hmd hlt
      go_wp2_with fail
      refine (c_make1 s _ os _ (Plus O (w.heap.size + 1)) HV.out).mono ?_
      rintro e w4 ⟨v4, rfl, hz4, hq4⟩
      obtain ⟨A4, c4, rfl, _, _, _⟩ := num_open hz4
      have HZ4 := Lib.hid hz4
      have HX4 := Lib.hid (HE.out.trans hq4)
      obtain ⟨r0, r1, g0, g1⟩ := HR.out.ext hq4 (fun h => h)
      clear hz4 hq4 z0 z1
      go_wp2_with fail
      refine bodyPost_ret (v := .agg #[.bool (signN s os).neg, .slice A4 (signN s os).d.length c4]) (by simp [results, Tryz.results52, go_sem, r0, r1, g0, g1]) rfl ⟨_, rfl, ?_, (HX4.out.setNew (show w.heap.size ≤ w.heap.size + 1 by omega) _).setNew (show w.heap.size ≤ w.heap.size + 1 by omega) _⟩
      rw [← HF.out]
      exact kNum.aggMinus HZ4.out (Ext.set2 _ _ _ _ _)

/-- A small number's decimals: os are done, m is left. -/
def IntTo (n m : Nat) (os : List Int) : Prop := Dig 10 os ∧ dv 10 os + 10 ^ os.length * (m : Int) = n ∧ os.length ≤ 20 ∧ m < 10 ^ (20 - os.length)
theorem IntTo.step {n m : Nat} {os : List Int} (h : IntTo n m os) (hm : 0 < m) : IntTo n (m / 10) (os ++ [((m % 10 : Nat) : Int)]) := by
  obtain ⟨h1, h2, h3, h4⟩ := h
  have h5 : os.length < 20 := by
    rcases Nat.lt_or_ge os.length 20 with h | h
    · exact h
    · rw [show 20 - os.length = 0 by omega] at h4
      simp at h4
      omega
  refine ⟨h1.snoc (by omega) (by omega), ?_, by rw [List.length_append, List.length_singleton]; omega, ?_⟩
  · rw [dv_snoc, List.length_append, List.length_singleton, Int.pow_succ, Int.add_assoc, Int.mul_assoc, ← Int.mul_add, ← h2]
    congr 2
    omega
  · rw [List.length_append, List.length_singleton]
    rw [show 20 - os.length = (20 - (os.length + 1)) + 1 by omega, Nat.pow_succ] at h4
    omega
theorem IntTo.all {n : Nat} {os : List Int} (h : IntTo n 0 os) : signN false os = numOf n := by
  rw [sign_dec h.1]
  have := h.2.1
  simp at this
  rw [if_neg (by simp), this]

set_option maxRecDepth 100000 in
set_option maxHeartbeats 2000000 in
theorem c_rInt (n : Nat) (w : World) (O : Nat → Prop) (hO : OldO O w) (hn : n < 1000000000) :
    Calls Tryz.prog 53 #[.int .i64 (n : Int)] w fun e w' => ∃ v, e = .returned v ∧ kNum.agg w' O (numOf n) v ∧ Ext NoB w w' := by
  have HO := Lib.hid hO
  have hb : decide ((n : Int) < 0) = false := by rw [decide_eq_false_iff_not]; omega
  clear hO
  go_enter Tryz.func53, Tryz.ntmps53
  go_wp2_with fail
  have HE0 : Hid (Ext NoB w ((w.alloc (.cells #[.bool false, .slice none 0 0] 53)).alloc (.cells #[] 3))) := Lib.hid (((Ext.refl _ _).alloc _).alloc _)
  have HR0 : Hid (RB w.heap.size ((w.alloc (.cells #[.bool false, .slice none 0 0] 53)).alloc (.cells #[] 3))) := Lib.hid ⟨by go_simp, by go_simp, by go_simp, by go_simp⟩
  have HW0 : Hid (Own ((w.alloc (.cells #[.bool false, .slice none 0 0] 53)).alloc (.cells #[] 3)) (w.heap.size + 1) 3 kInt (Plus O w.heap.size) (.slice (some ⟨w.heap.size + 1, 0, none⟩) 0 0) []) := Lib.hid (by
    have := Own.lit0 (k := kInt) (w := w.alloc (.cells #[.bool false, .slice none 0 0] 53)) (base := w.heap.size + 1) (e := 3) (O := Plus O w.heap.size) (by simp)
    simpa using this)
  clear hb
  go_loopw [0, 4] (fun l dd wr => ∃ (m : Nat) (os : List Int), m ≤ n ∧ l = .int .i64 m ∧ Own wr (w.heap.size + 1) 3 kInt (Plus O w.heap.size) dd os ∧ Hid (IntTo n m os) ∧ Hid (Ext NoB w wr) ∧ Hid (RB w.heap.size wr)) (fun l _ _ => (intOf l).toNat)
  case atStart => exact ⟨n, [], Nat.le_refl _, rfl, HW0.out, Lib.hid ⟨Dig.nil _, by simp [dv], by simp, by simp; omega⟩, HE0, HR0⟩
  case round =>
    clear HW0 HE0 HR0
    obtain ⟨m, os, hm, rfl, hown, HP, HE, HR⟩ := hrel
    have hsz : w.heap.size < wr.heap.size := HR.out.lt
    rcases Nat.eq_zero_or_pos m with h0 | h0
    · subst h0
      have HF := Lib.hid HP.out.all
      obtain ⟨Ad, cd, rfl, hld, hmd⟩ := hown.shape
      have HV := Lib.hid (hown.slice (pos := Nat.one_pos) (fun b hb => hb.elim (fun hb => Nat.lt_of_lt_of_le (HO.out b hb) (by omega)) (fun e => by omega)))
      clear hown hld hmd hm
      go_wp2_with fail
      refine (c_make1 false _ os _ (Plus O w.heap.size) HV.out).mono ?_
      rintro e w4 ⟨v4, rfl, hz4, hq4⟩
      obtain ⟨A4, c4, rfl, _, _, _⟩ := num_open hz4
      have HZ4 := Lib.hid hz4
      have HX4 := Lib.hid (HE.out.trans hq4)
      obtain ⟨r0, r1, g0, g1⟩ := HR.out.ext hq4 (fun h => h)
      clear hz4 hq4
      go_wp2_with fail
      refine bodyPost_ret (v := .agg #[.bool (signN false os).neg, .slice A4 (signN false os).d.length c4]) (by simp [results, Tryz.results53, go_sem, r0, r1, g0, g1]) rfl ⟨_, rfl, ?_, (HX4.out.setNew (Nat.le_refl _) _).setNew (Nat.le_refl _) _⟩
      rw [← HF.out]
      exact kNum.aggMinus HZ4.out (Ext.set2 _ _ _ _ _)
    · have HS := Lib.hid (HP.out.step h0)
      have HL : Hid (os.length ≤ 20) := Lib.hid HP.out.2.2.1
      go_wp2_with (at_builtin; refine wpl_append1 kInt Nat.one_pos rfl (.tmp 13) (.tmp 16) 28 rfl (w.heap.size + 1) 3 _ 8 Tryz.underlying28 info_int rfl (Plus O w.heap.size) _ rfl os hown rfl ((m % 10 : Nat) : Int) [_] ⟨rfl, wf_i (by omega) (by omega)⟩ (old_plus HO.out HE.out hsz) (by omega) (by have := HL.out; omega) (by omega) ?_; intro v2 w2 hO2 hE2 hat2)
      have HE2 := Lib.hid (HE.out.then hE2 (fun i hi h => by have := (hown.base h).1; omega))
      have HR2 := Lib.hid (HR.out.ext hE2 (fun h => by have := (hown.base h).1; omega))
      clear hE2 hat2
      exact ⟨⟨m / 10, _, by omega, by go_num, hO2, HS, HE2, HR2⟩, by simp [intOf]; omega⟩
end

/-- -1, 0, 1 of two numbers. -/
def cmpN (x y : Num) : Int := if x.neg && !y.neg then -1 else if !x.neg && y.neg then 1 else if x.neg then cmpDigs y.d x.d else cmpDigs x.d y.d
theorem cmpN_val (a b : Int) : cmpN (numOf a) (numOf b) = sgn (a - b) := by
  rw [cmpN, numOf_neg, numOf_neg, numOf_cmp, numOf_cmp]
  by_cases ha : a < 0
  · by_cases hb : b < 0
    · simp only [ha, hb, decide_true, Bool.not_true, Bool.and_false, Bool.false_and, Bool.false_eq_true, if_false, if_true]
      congr 1
      omega
    · simp only [ha, hb, decide_true, decide_false, Bool.not_false, Bool.and_true, if_true]
      rw [sgn_lt (by omega)]
  · by_cases hb : b < 0
    · simp only [ha, hb, decide_true, decide_false, Bool.not_true, Bool.not_false, Bool.and_true, Bool.and_false, Bool.false_eq_true, if_false, if_true]
      rw [sgn_gt (by omega)]
    · simp only [ha, hb, decide_false, Bool.not_false, Bool.and_false, Bool.and_true, Bool.false_eq_true, if_false]
      congr 1
      omega
set_option maxRecDepth 100000 in
set_option maxHeartbeats 1000000 in
theorem c_rCmp (x y : Num) (va vb : Value) (w : World) (O : Nat → Prop) (ha : kNum.agg w O x va) (hb : kNum.agg w O y vb) :
    Calls Tryz.prog 51 #[va, vb] w fun e w' => e = .returned (.int .i64 (cmpN x y)) ∧ Ext NoB w w' := by
  obtain ⟨ca, rfl, ha⟩ := ha
  obtain ⟨cb, rfl, hb⟩ := hb
  obtain ⟨v1, rfl, h1⟩ := kNum_iff.1 ha
  obtain ⟨v2, rfl, h2⟩ := kNum_iff.1 hb
  have H1 := Lib.hid h1
  have H2 := Lib.hid h2
  obtain ⟨s, xs⟩ := x
  obtain ⟨t, ys⟩ := y
  simp only at H1 H2 ⊢
  have HE0 : ∀ o1 o2, Ext NoB w ((w.alloc o1).alloc o2) := fun o1 o2 => ((Ext.refl _ _).alloc _).alloc _
  clear ha hb h1 h2
  cases s <;> cases t
  · go_enter Tryz.func51, Tryz.ntmps51
    go_wp2_with fail
    refine (c_cmp _ _ xs ys _ O (kInts.oneExt H1.out (HE0 _ _).no) (kInts.oneExt H2.out (HE0 _ _).no)).mono ?_
    rintro e w1 ⟨rfl, hd⟩
    have HD := Lib.hid hd
    clear hd
    go_wp2_with fail
    go_ret
    exact ⟨rfl, (HE0 _ _).trans HD.out.ext⟩
  · go_enter Tryz.func51, Tryz.ntmps51
    go_wp2_with fail
    go_ret
    exact ⟨rfl, HE0 _ _⟩
  · go_enter Tryz.func51, Tryz.ntmps51
    go_wp2_with fail
    go_ret
    exact ⟨rfl, HE0 _ _⟩
  · go_enter Tryz.func51, Tryz.ntmps51
    go_wp2_with fail
    refine (c_cmp _ _ ys xs _ O (kInts.oneExt H2.out (HE0 _ _).no) (kInts.oneExt H1.out (HE0 _ _).no)).mono ?_
    rintro e w1 ⟨rfl, hd⟩
    have HD := Lib.hid hd
    clear hd
    go_wp2_with fail
    go_ret
    exact ⟨rfl, (HE0 _ _).trans HD.out.ext⟩
end Go.Proofs.YtfpmapbimhdafaaGreatDoor

namespace Go.Proofs.YtfpmapbimhdafaaGreatDoor
open Go.RowKit
set_option linter.unusedVariables false
set_option linter.unusedSimpArgs false

theorem hv_dv {xs : List Int} : ∀ {m : Nat}, m ≤ xs.length → hv xs xs.length m = dv 1000000000 (xs.drop (xs.length - m))
  | 0, _ => by simp [hv, dv]
  | m + 1, h => by
    rw [hv, hv_dv (show m ≤ xs.length by omega), show xs.length - m = (xs.length - (m + 1)) + 1 by omega, List.drop_eq_getElem_cons (show xs.length - (m + 1) < xs.length by omega), dv, show xs.length - 1 - m = xs.length - (m + 1) by omega, rdI_eq (show xs.length - (m + 1) < xs.length by omega)]
    omega
theorem hv_all (xs : List Int) : hv xs xs.length xs.length = dv 1000000000 xs := by
  rw [hv_dv (Nat.le_refl _), Nat.sub_self, List.drop_zero]
/-- A small bound, said by the value. -/
theorem small_val {x : ZInt} (hx : ZOk x) (l3 : x.digs.length ≤ 3) {n : Int} (hn : n ≤ 1000) : ((smallZ x).isSome && decide (0 ≤ (smallZ x).getD 0) && decide ((smallZ x).getD 0 < n)) = (!x.neg && decide (zval x < n)) := by
  obtain ⟨hd, hc, hneg⟩ := zok_cut hx
  have h0 := dv_nonneg nine hd
  have big : 1000 < dv 1000000000 x.digs → false = (!x.neg && decide (zval x < n)) := fun h => by
    rw [zval]
    cases x.neg
    · rw [if_neg (by decide)]
      symm
      rw [Bool.and_eq_false_iff]
      exact .inr (decide_eq_false (by omega))
    · rfl
  rw [smallZ]
  split
  · rename_i h
    rcases h with h | ⟨h, _⟩
    · omega
    · have := dv_ge nine hd hc (n := 2) h
      rw [← big (by omega)]
      rfl
  · split
    · rename_i h
      rw [hv_all] at h
      rw [← big (by omega)]
      rfl
    · rw [hv_all]
      simp only [Option.isSome_some, Option.getD_some, Bool.true_and]
      rw [zval]
      cases hs : x.neg
      · simp only [Bool.false_eq_true, if_false, Bool.not_false, Bool.true_and]
        rw [decide_eq_true h0, Bool.true_and]
      · have := hneg hs
        simp only [if_true, Bool.not_true, Bool.false_and]
        rw [decide_eq_false (by omega)]
        rfl
/-- A thing, said by the value. -/
theorem thing_val {x : ZInt} (hx : ZOk x) (l3 : x.digs.length ≤ 3) {sort : Nat} {sizes : List Int} (h1 : sort ≠ 1) {n : Int} (hn : sizeOfSort sort sizes = n) (hn2 : n ≤ 1000) : thingB x sort sizes = (!x.neg && decide (zval x < n)) := by
  rw [thingB, hx.1, Bool.true_and, show (sort == 1) = false by simpa using h1, Bool.false_or, hn, small_val hx l3 hn2]

section
variable {w : World}
set_option maxRecDepth 100000 in
set_option maxHeartbeats 2000000 in
theorem c_rThing (m : Model) (vm : Value) (x : ZInt) (va : Value) (sort : Nat) (O : Nat → Prop) (hm : kModel.agg w O m vm) (ha : kZ.agg w O x va) (hO : OldO O w) (hlt : sort < m.sizes.length) (l3 : x.digs.length ≤ 3) (hsz : 2 ≤ sort → 1 ≤ rdI m.sizes sort ∧ rdI m.sizes sort ≤ 1000) :
    Calls Tryz.prog 29 #[vm, .int .i64 (sort : Int), va] w fun e w' => e = .returned (.bool (thingB x sort m.sizes)) ∧ Ext NoB w w' := by
  have ha0 := ha
  have dx : zRight x = true → ZOk x := fun h => ⟨h, z_digR ha0 h⟩
  obtain ⟨A, c, rfl, _, _, _⟩ := z_open ha
  obtain ⟨A1, c1, A2, c2, rfl, hszs, _⟩ := model_open hm
  have HA := Lib.hid ha0
  have HM := Lib.hid hszs
  have HDX := Lib.hid dx
  have HO := Lib.hid hO
  have HE0 : Hid (Ext NoB w ((w.alloc (.cells #[.slice A1 m.sizes.length c1, .slice A2 m.funs.length c2] 31)).alloc (.cells #[.bool x.neg, .slice A x.digs.length c] 50))) := Lib.hid (((Ext.refl _ _).alloc _).alloc _)
  have HSZ := Lib.hid hsz
  clear ha ha0 hm hszs dx hO hsz
  go_enter Tryz.func29, Tryz.ntmps29
  go_wp2_with fail
  have HB0 : Hid (ZB w.heap.size (.slice A1 m.sizes.length c1) (.slice A2 m.funs.length c2) ((w.alloc (.cells #[.slice A1 m.sizes.length c1, .slice A2 m.funs.length c2] 31)).alloc (.cells #[.bool x.neg, .slice A x.digs.length c] 50))) := Lib.hid ⟨by go_simp, by go_simp⟩
  have HB1 : Hid (ZB (w.heap.size + 1) (.bool x.neg) (.slice A x.digs.length c) ((w.alloc (.cells #[.slice A1 m.sizes.length c1, .slice A2 m.funs.length c2] 31)).alloc (.cells #[.bool x.neg, .slice A x.digs.length c] 50))) := Lib.hid ⟨by go_simp, by go_simp⟩
  generalize (w.alloc (.cells #[.slice A1 m.sizes.length c1, .slice A2 m.funs.length c2] 31)).alloc (.cells #[.bool x.neg, .slice A x.digs.length c] 50) = w0 at *
  refine (c_rRight _ x w0 O (kZ.aggExt HA.out HE0.out.no)).mono ?_
  rintro e w1 ⟨rfl, he⟩
  obtain ⟨m0, m1⟩ := HB0.out.ext he (fun h => h)
  obtain ⟨x0, x1⟩ := HB1.out.ext he (fun h => h)
  have HE1 := Lib.hid (HE0.out.trans he)
  clear he HB0 HB1 HE0
  cases hz : zRight x with
  | false =>
    have HT : Hid (thingB x sort m.sizes = false) := Lib.hid (by rw [thingB, hz]; rfl)
    clear hz
    go_wp2_with fail
    go_ret
    exact ⟨retB HT.out.symm, HE1.out⟩
  | true =>
    have HZ := Lib.hid (HDX.out hz)
    clear hz HDX
    by_cases h1 : sort = 1
    · subst h1
      have HT : Hid (thingB x 1 m.sizes = true) := Lib.hid (by rw [thingB, HZ.out.1]; rfl)
      go_wp2_with fail
      go_ret
      exact ⟨retB HT.out.symm, HE1.out⟩
    have hb1 : ((sort : Int) == 1) = false := by rw [beq_eq_false_iff_ne]; omega
    by_cases h0 : sort = 0
    · subst h0
      have HT := Lib.hid (thing_val HZ.out l3 (sort := 0) (sizes := m.sizes) h1 (n := 2) rfl (by omega))
      clear h1
      cases hng : x.neg with
      | true =>
        have HT2 : Hid (thingB x 0 m.sizes = false) := Lib.hid (by rw [HT.out, hng]; rfl)
        rw [hng] at x0
        clear hng HT
        go_wp2_with fail
        go_ret
        exact ⟨retB HT2.out.symm, HE1.out⟩
      | false =>
        have HT2 : Hid (thingB x 0 m.sizes = decide (zval x < 2)) := Lib.hid (by rw [HT.out, hng]; rfl)
        have HA1 := Lib.hid (kZ.aggExt HA.out HE1.out.no)
        rw [hng] at x0 HA1
        have HNG := Lib.hid hng
        clear hng HT
        go_wp2_with fail
        refine (c_rOf _ x _ O HA1.out (HO.out.ext HE1.out) HZ.out (by omega)).mono ?_
        rintro e w2 ⟨v2, rfl, hv2, he2⟩
        have HV2 := Lib.hid hv2
        have HE2 := Lib.hid (HE1.out.trans he2)
        clear hv2 he2
        go_wp2_with fail
        refine (c_rInt 2 _ O (HO.out.ext HE2.out) (by omega)).mono ?_
        rintro e w3 ⟨v3, rfl, hv3, he3⟩
        have HV3 := Lib.hid hv3
        have HV2' := Lib.hid (kNum.aggExt HV2.out he3.no)
        have HE3 := Lib.hid (HE2.out.trans he3)
        clear hv3 he3
        go_wp2_with fail
        refine (c_rCmp _ _ _ _ _ O HV2'.out HV3.out).mono ?_
        rintro e w4 ⟨rfl, he4⟩
        have HE4 := Lib.hid (HE3.out.trans he4)
        have HC := Lib.hid (cmpN_val (zval x) 2)
        clear he4
        generalize cmpN (numOf (zval x)) (numOf 2) = cz at *
        by_cases hlt2 : zval x < 2
        · have HCZ : Hid (cz = -1) := Lib.hid (by rw [HC.out, sgn_lt hlt2])
          have HT3 : Hid (thingB x 0 m.sizes = true) := Lib.hid (by rw [HT2.out, decide_eq_true hlt2])
          rw [HCZ.out]
          clear HC HT2 hlt2
          go_wp2_with fail
          go_ret
          exact ⟨retB HT3.out.symm, HE4.out⟩
        · have HCZ : Hid (decide (cz < 0) = false) := Lib.hid (by
            rw [decide_eq_false_iff_not, HC.out, sgn, if_neg (by omega)]
            split <;> omega)
          have HT3 : Hid (thingB x 0 m.sizes = false) := Lib.hid (by rw [HT2.out, decide_eq_false hlt2])
          have hcz := HCZ.out
          clear HC HT2 hlt2 HCZ
          go_wp2_with fail
          go_ret
          exact ⟨retB HT3.out.symm, HE4.out⟩
    · have hb0 : decide ((1 : Int) < (sort : Int)) = true := by rw [decide_eq_true_eq]; omega
      have hb0' : decide (1 < sort) = true := by rw [decide_eq_true_eq]; omega
      obtain ⟨_, _, hv, _, _, hr⟩ := Kd.one_slice (kInts.oneExt HM.out HE1.out.no)
      injection hv with hv1 hv2 hv3
      subst hv1
      clear hv2 hv3
      obtain ⟨b, off, rfl, _, y0, _⟩ := ints_at hr hlt
      obtain ⟨q0, q1⟩ := HSZ.out (by omega)
      obtain ⟨n, hn⟩ : ∃ n : Nat, rdI m.sizes sort = (n : Int) := ⟨(rdI m.sizes sort).toNat, by omega⟩
      have HT := Lib.hid (thing_val HZ.out l3 (sort := sort) (sizes := m.sizes) h1 (n := (n : Int)) (by rw [sizeOfSort, if_neg h0, hn]) (by omega))
      rw [hn] at y0
      have HN9 : Hid (n < 1000000000) := Lib.hid (by omega)
      have ly := cell_lt y0
      clear hr hn h0 h1 q0 q1
      cases hng : x.neg with
      | true =>
        have HT2 : Hid (thingB x sort m.sizes = false) := Lib.hid (by rw [HT.out, hng]; rfl)
        rw [hng] at x0
        clear hng HT
        go_wp2_with fail
        go_ret
        exact ⟨retB HT2.out.symm, HE1.out⟩
      | false =>
        have HT2 : Hid (thingB x sort m.sizes = decide (zval x < (n : Int))) := Lib.hid (by rw [HT.out, hng]; rfl)
        have HA1 := Lib.hid (kZ.aggExt HA.out HE1.out.no)
        rw [hng] at x0 HA1
        have HNG := Lib.hid hng
        clear hng HT
        go_wp2_with fail
        refine (c_rOf _ x _ O HA1.out (HO.out.ext HE1.out) HZ.out (by omega)).mono ?_
        rintro e w2 ⟨v2, rfl, hv2, he2⟩
        have HV2 := Lib.hid hv2
        have HE2 := Lib.hid (HE1.out.trans he2)
        clear hv2 he2
        go_wp2_with fail
        refine (c_rInt n _ O (HO.out.ext HE2.out) HN9.out).mono ?_
        rintro e w3 ⟨v3, rfl, hv3, he3⟩
        have HV3 := Lib.hid hv3
        have HV2' := Lib.hid (kNum.aggExt HV2.out he3.no)
        have HE3 := Lib.hid (HE2.out.trans he3)
        clear hv3 he3
        go_wp2_with fail
        refine (c_rCmp _ _ _ _ _ O HV2'.out HV3.out).mono ?_
        rintro e w4 ⟨rfl, he4⟩
        have HE4 := Lib.hid (HE3.out.trans he4)
        have HC := Lib.hid (cmpN_val (zval x) n)
        clear he4
        generalize cmpN (numOf (zval x)) (numOf (n : Int)) = cz at *
        by_cases hlt2 : zval x < (n : Int)
        · have HCZ : Hid (cz = -1) := Lib.hid (by rw [HC.out, sgn_lt hlt2])
          have HT3 : Hid (thingB x sort m.sizes = true) := Lib.hid (by rw [HT2.out, decide_eq_true hlt2])
          rw [HCZ.out]
          clear HC HT2 hlt2
          go_wp2_with fail
          go_ret
          exact ⟨retB HT3.out.symm, HE4.out⟩
        · have HCZ : Hid (decide (cz < 0) = false) := Lib.hid (by
            rw [decide_eq_false_iff_not, HC.out, sgn, if_neg (by omega)]
            split <;> omega)
          have HT3 : Hid (thingB x sort m.sizes = false) := Lib.hid (by rw [HT2.out, decide_eq_false hlt2])
          have hcz := HCZ.out
          clear HC HT2 hlt2 HCZ
          go_wp2_with fail
          go_ret
          exact ⟨retB HT3.out.symm, HE4.out⟩
end
end Go.Proofs.YtfpmapbimhdafaaGreatDoor

namespace Go.Proofs.YtfpmapbimhdafaaGreatDoor
open Go.RowKit
set_option linter.unusedVariables false
set_option linter.unusedSimpArgs false

theorem rowB_len {f : Fun} {sizes : List Int} {r : TRow} (h : r.args.length ≠ f.args.length) : rowB f sizes r = false := by rw [rowB, decide_eq_false h]; rfl
theorem rowB_val {f : Fun} {sizes : List Int} {r : TRow} (h : thingB r.value f.result.toNat sizes = false) : rowB f sizes r = false := by rw [rowB, h]; simp
theorem rowB_arg {f : Fun} {sizes : List Int} {r : TRow} {j : Nat} (hj : j < r.args.length) (h : thingB (atZ r.args j) (rdI f.args j).toNat sizes = false) : rowB f sizes r = false := by rw [rowB, argsTo_false h _ hj]; simp
theorem rowB_ok {f : Fun} {sizes : List Int} {r : TRow} (h : r.args.length = f.args.length) (h1 : thingB r.value f.result.toNat sizes = true) (h2 : argsTo f.args r.args sizes r.args.length = true) : rowB f sizes r = true := by rw [rowB, decide_eq_true h, h1, h2]; rfl
theorem fits_els {f : Fun} {t : Table} {sizes : List Int} (h : thingB t.els f.result.toNat sizes = false) : fitsB f t sizes = false := by rw [fitsB, h, Bool.and_false]
theorem sizes_two {sizes : List Int} : sizesTo sizes 2 = true := rfl
theorem sizes_at {sizes : List Int} {n k : Nat} (h : sizesTo sizes n = true) (h2 : 2 ≤ k) (hk : k < n) : 1 ≤ rdI sizes k ∧ rdI sizes k ≤ 1000 := by
  cases hz : sizeOkB sizes k with
  | false => rw [sizesTo_false hz n hk] at h; cases h
  | true =>
    simp only [sizeOkB, Bool.or_eq_true, Bool.and_eq_true, decide_eq_true_eq] at hz
    omega
theorem z_agg {w : World} {O : Nat → Prop} {z : ZInt} {A : Option Addr} {c : Nat} (h : kDigs.one w O z.digs (.slice A z.digs.length c)) : kZ.agg w O z (.agg #[.bool z.neg, .slice A z.digs.length c]) := zv_mk h

section
variable {w : World}
set_option maxRecDepth 100000 in
set_option maxHeartbeats 8000000 in
theorem c_rModel (d : Dump) (vd : Value) (hd : kDump.agg w NoB d vd) (hs : Small d) (hl : LoadOk d) (m : Model) (vm : Value) (hm : kModel.agg w NoB m vm) (hml : ModLen m) :
    Calls Tryz.prog 13 #[vd, vm] w fun e w' => e = .returned (.bool (modelB d m)) ∧ Ext NoB w w' := by
  have hm0 := hm
  obtain ⟨v1, v2, v3, v4, rfl, d1, d2, _, _⟩ := dump_open hd
  obtain ⟨A1, n1, hv1, _, _, _⟩ := Kd.one_slice d1
  obtain ⟨A2, n2, hv2, _, _, _⟩ := Kd.one_slice d2
  subst hv1
  subst hv2
  obtain ⟨B1, c1, B2, c2, rfl, m1, m2⟩ := model_open hm
  have HD2 := Lib.hid d2
  have HM0 := Lib.hid hm0
  have HM1 := Lib.hid m1
  have HM2 := Lib.hid m2
  have HL := Lib.hid hl
  have HML := Lib.hid hml
  have h2 := hl.two
  have hns := hs.ns
  have hnf := hs.nf
  have HS := Lib.hid hs
  have HE0 : Hid (Ext NoB w ((w.alloc (.cells #[.slice A1 d.sorts.length n1, .slice A2 d.funs.length n2, v3, v4] 27)).alloc (.cells #[.slice B1 m.sizes.length c1, .slice B2 m.funs.length c2] 31))) := Lib.hid (((Ext.refl _ _).alloc _).alloc _)
  clear hd hm hm0 d1 d2 m1 m2 hl hml hs
  by_cases e1 : m.sizes.length = d.sorts.length
  case neg =>
    have q1 : ((m.sizes.length : Int) != (d.sorts.length : Int)) = true := by rw [bne_iff_ne]; omega
    have HF : Hid (modelB d m = false) := Lib.hid (by rw [modelB, decide_eq_false e1]; simp)
    clear e1
    go_enter Tryz.func13, Tryz.ntmps13
    go_wp2_with fail
    go_ret
    exact ⟨retB HF.out.symm, HE0.out⟩
  have q1 : ((m.sizes.length : Int) != (d.sorts.length : Int)) = false := by rw [bne_eq_false_iff_eq]; omega
  by_cases e2 : m.funs.length = d.funs.length
  case neg =>
    have q2 : ((m.funs.length : Int) != (d.funs.length : Int)) = true := by rw [bne_iff_ne]; omega
    have HF : Hid (modelB d m = false) := Lib.hid (by rw [modelB, decide_eq_false e2]; simp)
    clear e1 e2
    go_enter Tryz.func13, Tryz.ntmps13
    go_wp2_with fail
    go_ret
    exact ⟨retB HF.out.symm, HE0.out⟩
  have q2 : ((m.funs.length : Int) != (d.funs.length : Int)) = false := by rw [bne_eq_false_iff_eq]; omega
  have HM : Hid (modelB d m = (sizesTo m.sizes m.sizes.length && funsTo d m d.funs.length)) := Lib.hid (by rw [modelB, decide_eq_true e1, decide_eq_true e2]; rfl)
  have hsz2 : 2 ≤ m.sizes.length := by omega
  have hsz20 : m.sizes.length ≤ 20 := by omega
  have hmf : m.funs.length ≤ 40 := by omega
  have E1 := Lib.hid e1
  have E2 := Lib.hid e2
  clear e1 e2
  go_enter Tryz.func13, Tryz.ntmps13
  go_wp2_with fail
  have HBD : Hid (ZB w.heap.size (.slice A1 d.sorts.length n1) (.slice A2 d.funs.length n2) ((w.alloc (.cells #[.slice A1 d.sorts.length n1, .slice A2 d.funs.length n2, v3, v4] 27)).alloc (.cells #[.slice B1 m.sizes.length c1, .slice B2 m.funs.length c2] 31))) := Lib.hid ⟨by go_simp, by go_simp⟩
  have HBM : Hid (ZB (w.heap.size + 1) (.slice B1 m.sizes.length c1) (.slice B2 m.funs.length c2) ((w.alloc (.cells #[.slice A1 d.sorts.length n1, .slice A2 d.funs.length n2, v3, v4] 27)).alloc (.cells #[.slice B1 m.sizes.length c1, .slice B2 m.funs.length c2] 31))) := Lib.hid ⟨by go_simp, by go_simp⟩
  generalize (w.alloc (.cells #[.slice A1 d.sorts.length n1, .slice A2 d.funs.length n2, v3, v4] 27)).alloc (.cells #[.slice B1 m.sizes.length c1, .slice B2 m.funs.length c2] 31) = w0 at *
  obtain ⟨b0, b1⟩ := HBM.out
  have lb := cell_lt b0
  clear q1 q2
  go_loopw [5] (fun i wr => ∃ k : Nat, 2 ≤ k ∧ k ≤ m.sizes.length ∧ i = .int .i64 k ∧ Hid (sizesTo m.sizes k = true) ∧ w0 = wr) (fun i _ => m.sizes.length - (intOf i).toNat)
  case atStart => exact ⟨2, by omega, hsz2, rfl, Lib.hid sizes_two, rfl⟩
  case round =>
    obtain ⟨k, hk2, hk, rfl, HR, rfl⟩ := hrel
    by_cases hlt : k < m.sizes.length
    · obtain ⟨_, _, hv, _, _, hr⟩ := Kd.one_slice (kInts.oneExt HM1.out HE0.out)
      injection hv with hv1 hv2 hv3
      subst hv1
      clear hv2 hv3
      obtain ⟨ib, io, hI, _, i0, _⟩ := ints_at hr hlt
      subst hI
      have li := cell_lt i0
      by_cases z3 : rdI m.sizes k < 1
      · have HF : Hid (modelB d m = false) := Lib.hid (by
          rw [HM.out, sizesTo_false (k := k) _ _ hlt]
          · rfl
          · rw [sizeOkB, decide_eq_false (by omega), decide_eq_false (show ¬ 1 ≤ rdI m.sizes k by omega)]; rfl)
        have q4 : decide (rdI m.sizes k < 1) = true := decide_eq_true z3
        clear hr z3
        generalize rdI m.sizes k = sk at *
        go_wp2_with fail
        go_ret
        exact ⟨retB HF.out.symm, HE0.out⟩
      have q4 : decide (rdI m.sizes k < 1) = false := decide_eq_false z3
      by_cases z4 : 1000 < rdI m.sizes k
      · have HF : Hid (modelB d m = false) := Lib.hid (by
          rw [HM.out, sizesTo_false (k := k) _ _ hlt]
          · rfl
          · rw [sizeOkB, decide_eq_false (by omega), decide_eq_false (show ¬ rdI m.sizes k ≤ 1000 by omega), Bool.and_false]; rfl)
        have q5 : decide (1000 < rdI m.sizes k) = true := decide_eq_true z4
        clear hr z3 z4
        generalize rdI m.sizes k = sk at *
        go_wp2_with fail
        go_ret
        exact ⟨retB HF.out.symm, HE0.out⟩
      have q5 : decide (1000 < rdI m.sizes k) = false := decide_eq_false z4
      have HZ : Hid (sizesTo m.sizes (k + 1) = true) := Lib.hid (by rw [sizesTo, HR.out, sizeOkB, decide_eq_true (show 1 ≤ rdI m.sizes k by omega), decide_eq_true (show rdI m.sizes k ≤ 1000 by omega)]; simp)
      clear hr z3 z4
      generalize rdI m.sizes k = sk at *
      go_wp2_with fail
      exact ⟨⟨k + 1, by omega, by omega, by go_num, HZ, trivial⟩, by simp [intOf]; omega⟩
    · obtain rfl : k = m.sizes.length := by omega
      have HM' : Hid (modelB d m = funsTo d m d.funs.length) := Lib.hid (by rw [HM.out, HR.out]; rfl)
      have HSA : Hid (∀ s, 2 ≤ s → s < m.sizes.length → 1 ≤ rdI m.sizes s ∧ rdI m.sizes s ≤ 1000) := Lib.hid (fun s h2 h3 => sizes_at HR.out h2 h3)
      clear hlt HR hk hk2
      go_wp2_with fail
      clear b0 b1 lb
      go_loopw [6] (fun i wr => ∃ k : Nat, k ≤ m.funs.length ∧ i = .int .i64 k ∧ Hid (Ext NoB w0 wr ∧ funsTo d m k = true)) (fun i _ => m.funs.length - (intOf i).toNat)
      case atStart => exact ⟨0, by omega, rfl, Lib.hid ⟨Ext.refl _ _, rfl⟩⟩
      case round =>
        obtain ⟨k, hk, rfl, HR⟩ := hrel
        obtain ⟨b0, b1⟩ := HBM.out.ext HR.out.1 (fun h => h)
        obtain ⟨d0, d1⟩ := HBD.out.ext HR.out.1 (fun h => h)
        have HEr := Lib.hid (HE0.out.trans HR.out.1)
        have lb := cell_lt b0
        have ld := cell_lt d0
        by_cases hlt : k < m.funs.length
        · have hkd : k < d.funs.length := by have := E2.out; omega
          obtain ⟨f, hf⟩ := at_some hkd
          obtain ⟨t, ht⟩ := at_some hlt
          obtain ⟨_, _, hv, _, _, hr⟩ := Kd.one_slice (kFuns.oneExt HD2.out HEr.out)
          injection hv with hv1 hv2 hv3
          subst hv1
          clear hv2 hv3
          obtain ⟨fb, fo, hF, _, hrow⟩ := hr (ne_nil_of_lt hkd)
          subst hF
          obtain ⟨Fa, fac, ⟨x0, x1, x2⟩, hfa, hfn, hfw⟩ := row_fun hrow hf
          obtain ⟨_, _, hv, _, _, hr⟩ := Kd.one_slice (kTables.oneExt HM2.out HEr.out)
          injection hv with hv1 hv2 hv3
          subst hv1
          clear hv2 hv3
          obtain ⟨tb, tof, hT, _, hrow⟩ := hr (ne_nil_of_lt hlt)
          subst hT
          obtain ⟨Tr, trc, Te, tec, ⟨y0, y1, y2⟩, hrows, hels⟩ := row_table' hrow ht
          have HFB : Hid (funB d m k = fitsB f t m.sizes) := Lib.hid (by rw [funB, funAt_eq hf, tabAt_eq ht])
          obtain ⟨g1, g2, g3⟩ := HL.out.funs f (List.mem_of_getElem? hf)
          rw [← E1.out] at g1 g3
          have HTL := Lib.hid (HML.out.2.2 t (List.mem_of_getElem? ht))
          have lx := cell_lt x0
          have ly := cell_lt y0
          have HE1 : Hid (Ext NoB wr (wr.alloc (.cells #[.string f.name, .slice Fa f.args.length fac, .int .i64 f.result] 71))) := Lib.hid ((Ext.refl _ _).alloc _)
          have HFA := Lib.hid hfa
          have HELS := Lib.hid (z_agg (kDigs.oneExt hels HE1.out.drew.no))
          have HROWS := Lib.hid hrows
          have HG1 := Lib.hid g1
          have HMV := Lib.hid (kModel.aggExt HM0.out (HEr.out.trans HE1.out.drew))
          obtain ⟨rn, hrn⟩ : ∃ rn : Nat, f.result = (rn : Int) := ⟨f.result.toNat, by omega⟩
          have HRN : Hid (f.result.toNat = rn) := Lib.hid (by omega)
          have hrl : rn < m.sizes.length := by omega
          rw [hrn] at x2
          have HST : Hid ((wr.alloc (.cells #[.string f.name, .slice Fa f.args.length fac, .int .i64 (rn : Int)] 71)).drew.cell? ⟨w.heap.size + 1, 0, none⟩ = some (.slice B1 m.sizes.length c1) ∧ (wr.alloc (.cells #[.string f.name, .slice Fa f.args.length fac, .int .i64 (rn : Int)] 71)).drew.cell? ⟨w.heap.size + 1, 1, none⟩ = some (.slice (some ⟨tb, tof, none⟩) m.funs.length c2) ∧ (wr.alloc (.cells #[.string f.name, .slice Fa f.args.length fac, .int .i64 (rn : Int)] 71)).drew.cell? ⟨wr.heap.size, 2, none⟩ = some (.int .i64 (rn : Int)) ∧ (wr.alloc (.cells #[.string f.name, .slice Fa f.args.length fac, .int .i64 (rn : Int)] 71)).drew.cell? ⟨tb, tof + k * 3 + 1, none⟩ = some (.bool t.els.neg) ∧ (wr.alloc (.cells #[.string f.name, .slice Fa f.args.length fac, .int .i64 (rn : Int)] 71)).drew.cell? ⟨tb, tof + k * 3 + 2, none⟩ = some (.slice Te t.els.digs.length tec)) := Lib.hid (by rw [hrn] at HE1; exact ⟨HE1.out.drew.cell b0 id, HE1.out.drew.cell b1 id, by go_simp, HE1.out.drew.cell y1 id, HE1.out.drew.cell y2 id⟩)
          rw [hrn] at HE1 HELS HMV
          have HFN := Lib.hid hrn
          have hfal : f.args.length ≤ 10 := (HS.out.fu f (List.mem_of_getElem? hf)).1
          have jb1 : (k : Int) < (m.funs.length : Int) := by omega
          clear hr hrow hfa hfn hfw hrows hels hf ht g1 g2 g3 hrn
          go_wp2_with fail
          refine wpM_begin (fun W => W.cell? ⟨w.heap.size + 1, 0, none⟩ = some (.slice B1 m.sizes.length c1) ∧ W.cell? ⟨w.heap.size + 1, 1, none⟩ = some (.slice (some ⟨tb, tof, none⟩) m.funs.length c2) ∧ W.cell? ⟨wr.heap.size, 2, none⟩ = some (.int .i64 (rn : Int)) ∧ W.cell? ⟨tb, tof + k * 3 + 1, none⟩ = some (.bool t.els.neg) ∧ W.cell? ⟨tb, tof + k * 3 + 2, none⟩ = some (.slice Te t.els.digs.length tec)) [9] [0, 1, 2, 3, 4, 5, 6, 7, 8] (by kernel_rfl) (by kernel_rfl) (HST.out) (fun hS0 hA => ?_)
          refine wpM_take 0 hA hS0 rfl (by kernel_rfl) rfl (by intro w hs; (try dsimp only at hs); go_simp; try rfl) ?_; (try simp only [Act.put, List.setIfInBounds_toArray, List.set_cons_zero, List.set_cons_succ])
          refine wpM_free 1 rfl (by kernel_rfl) rfl (by intro w; go_simp; try rfl) ?_; (try simp only [Act.put, List.setIfInBounds_toArray, List.set_cons_zero, List.set_cons_succ])
          refine wpM_take 2 hA hS0 rfl (by kernel_rfl) rfl (by intro w hs; (try dsimp only at hs); go_simp; try rfl) ?_; (try simp only [Act.put, List.setIfInBounds_toArray, List.set_cons_zero, List.set_cons_succ])
          refine wpM_free 3 rfl (by kernel_rfl) rfl (by intro w; go_simp; try rfl) ?_; (try simp only [Act.put, List.setIfInBounds_toArray, List.set_cons_zero, List.set_cons_succ])
          refine wpM_take 4 hA hS0 rfl (by kernel_rfl) rfl (by intro w hs; (try dsimp only at hs); go_simp; try rfl) ?_; (try simp only [Act.put, List.setIfInBounds_toArray, List.set_cons_zero, List.set_cons_succ])
          refine wpM_free 5 rfl (by kernel_rfl) rfl (by intro w; go_simp; try rfl) ?_; (try simp only [Act.put, List.setIfInBounds_toArray, List.set_cons_zero, List.set_cons_succ])
          refine wpM_free 6 rfl (by kernel_rfl) rfl (by intro w; go_simp; try rfl) ?_; (try simp only [Act.put, List.setIfInBounds_toArray, List.set_cons_zero, List.set_cons_succ])
          refine wpM_free 7 rfl (by kernel_rfl) rfl (by intro w; go_simp; try rfl) ?_; (try simp only [Act.put, List.setIfInBounds_toArray, List.set_cons_zero, List.set_cons_succ])
          refine wpM_take 8 hA hS0 rfl (by kernel_rfl) rfl (by intro w hs; (try dsimp only at hs); go_simp; try rfl) ?_; (try simp only [Act.put, List.setIfInBounds_toArray, List.set_cons_zero, List.set_cons_succ])
          refine wpM_last 9 rfl (by kernel_rfl) (by decide) (fun K hK => ?_)
          go_simp
          refine (c_rThing m _ t.els _ rn NoB HMV.out HELS.out (fun _ h => h.elim) hrl HTL.out.2.1 (fun h => HSA.out _ h hrl)).mono ?_
          rintro e w5 ⟨rfl, hq⟩
          have HE5 := Lib.hid (HE1.out.drew.trans hq)
          have HE25 := Lib.hid ((Ext.refl NoB _).drew.trans hq)
          clear hq
          refine hK.out _ _ ?_
          clear hK K; (try simp only [Act.put, List.setIfInBounds_toArray, List.set_cons_zero, List.set_cons_succ])
          refine wpM_free 10 rfl (by kernel_rfl) rfl (by intro w; go_simp; try rfl) ?_; (try simp only [Act.put, List.setIfInBounds_toArray, List.set_cons_zero, List.set_cons_succ])
          refine wpM_done (by kernel_rfl) ?_
          clear hS0
          have HY0 := Lib.hid (HE5.out.cell y0 id)
          have HBF : Hid (w5.cell? ⟨wr.heap.size, 0, none⟩ = some (.string f.name) ∧ w5.cell? ⟨wr.heap.size, 1, none⟩ = some (.slice Fa f.args.length fac) ∧ w5.cell? ⟨wr.heap.size, 2, none⟩ = some (.int .i64 (rn : Int))) := Lib.hid ⟨HE25.out.cell (by go_simp) id, HE25.out.cell (by go_simp) id, HE25.out.cell (by go_simp) id⟩
          have HE0r := Lib.hid (HR.out.1.trans HE5.out)
          have HEr5 := Lib.hid (HEr.out.trans HE5.out)
          have HROWS5 := Lib.hid (kRows.oneExt HROWS.out HE5.out)
          have HFA5 := Lib.hid (kInts.oneExt HFA.out HE5.out)
          have HMV5 := Lib.hid (kModel.aggExt HM0.out HEr5.out)
          have HFT : Hid (funsTo d m k = true) := Lib.hid HR.out.2
          obtain ⟨b0, b1⟩ := HBM.out.ext HE0r.out (fun h => h)
          have y0 := HY0.out
          have lb := cell_lt b0
          generalize wr.heap.size = fg at *
          clear HROWS HFA HMV HELS HE25 HE1 HST d0 d1 ld x0 x1 x2 y1 y2 lx ly
          cases hz : thingB t.els rn m.sizes with
          | false =>
            have HF : Hid (modelB d m = false) := Lib.hid (by rw [HM'.out, funsTo_false (by rw [HFB.out]; exact fits_els (by rw [HRN.out]; exact hz)) _ hkd])
            clear hz
            go_wp2_with fail
            go_ret
            exact ⟨retB HF.out.symm, HEr5.out⟩
          | true =>
            have HZ := Lib.hid hz
            have htl : t.rows.length ≤ 20 := HTL.out.1
            clear hz
            go_wp2_with fail
            clear b0 b1 y0 lb
            go_loopw [8] (fun i wq => ∃ j : Nat, j ≤ t.rows.length ∧ i = .int .i64 j ∧ Hid (Ext NoB w5 wq ∧ (t.rows.take j).all (rowB f m.sizes) = true)) (fun i _ => t.rows.length - (intOf i).toNat)
            case atStart => exact ⟨0, by omega, rfl, Lib.hid ⟨Ext.refl _ _, by simp⟩⟩
            case round =>
              obtain ⟨j, hj, rfl, HQ⟩ := hrel
              obtain ⟨b0, b1⟩ := HBM.out.ext (HE0r.out.trans HQ.out.1) (fun h => h)
              have HEq := Lib.hid (HEr5.out.trans HQ.out.1)
              have y0 := HQ.out.1.cell HY0.out id
              have f1 := HQ.out.1.cell HBF.out.2.1 id
              have f2 := HQ.out.1.cell HBF.out.2.2 id
              have lb := cell_lt b0
              have lf := cell_lt f1
              by_cases hja : j < t.rows.length
              · obtain ⟨r, hr'⟩ := at_some hja
                obtain ⟨_, _, hv, _, _, hr⟩ := Kd.one_slice (kRows.oneExt HROWS5.out HQ.out.1)
                injection hv with hv1 hv2 hv3
                subst hv1
                clear hv2 hv3
                obtain ⟨sb, so, hA, _, hrow⟩ := hr (ne_nil_of_lt hja)
                subst hA
                obtain ⟨Ra, ra, Rv, rv, ⟨z0, z1, z2⟩, hargs, hval⟩ := row_row hrow hr'
                have HRR := Lib.hid hr'
                have HRL := Lib.hid (HTL.out.2.2 r (List.mem_of_getElem? hr'))
                have HE2 : Hid (Ext NoB wr (wr.alloc (.cells #[.slice Ra r.args.length ra, .bool r.value.neg, .slice Rv r.value.digs.length rv] 60))) := Lib.hid ((Ext.refl _ _).alloc _)
                have HVAL := Lib.hid (kZ.aggExt hval HE2.out.no)
                have HARGS := Lib.hid (kZs.oneExt hargs HE2.out.no)
                have HMVq := Lib.hid (kModel.aggExt HMV5.out (HQ.out.1.trans HE2.out))
                have HRB : Hid (ZB wr.heap.size (.slice Ra r.args.length ra) (.bool r.value.neg) (wr.alloc (.cells #[.slice Ra r.args.length ra, .bool r.value.neg, .slice Rv r.value.digs.length rv] 60))) := Lib.hid ⟨by go_simp, by go_simp⟩
                have lz := cell_lt z0
                have hral : r.args.length ≤ 12 := HRL.out.1
                clear hr hrow hr' hargs hval
                by_cases e3 : r.args.length = f.args.length
                case neg =>
                  have q3 : ((r.args.length : Int) != (f.args.length : Int)) = true := by rw [bne_iff_ne]; omega
                  have HF : Hid (modelB d m = false) := Lib.hid (by rw [HM'.out, funsTo_false (by rw [HFB.out]; exact fits_bad HRR.out (rowB_len e3)) _ hkd])
                  clear e3
                  go_wp2_with fail
                  go_ret
                  exact ⟨retB HF.out.symm, HEq.out.trans HE2.out⟩
                have q3 : ((r.args.length : Int) != (f.args.length : Int)) = false := by rw [bne_eq_false_iff_eq]; omega
                have E3 := Lib.hid e3
                clear e3
                go_wp2_with fail
                refine (c_rThing m _ r.value _ rn NoB HMVq.out HVAL.out (fun _ h => h.elim) hrl HRL.out.2.1 (fun h => HSA.out _ h hrl)).mono ?_
                rintro e w6 ⟨rfl, hq⟩
                have HE6 := Lib.hid (HQ.out.1.trans (HE2.out.trans hq))
                have HEw6 := Lib.hid (HEr5.out.trans HE6.out)
                have HARG6 := Lib.hid (kZs.oneExt HARGS.out hq.no)
                have HRB6 := Lib.hid (HRB.out.ext hq id)
                have HALL : Hid ((t.rows.take j).all (rowB f m.sizes) = true) := Lib.hid HQ.out.2
                generalize wr.heap.size = rg at *
                clear hq HRB HARGS HVAL HMVq HE2 HQ b0 b1 y0 f1 f2 z0 z1 z2 lb lf lz HEq
                cases hz : thingB r.value rn m.sizes with
                | false =>
                  have HF : Hid (modelB d m = false) := Lib.hid (by rw [HM'.out, funsTo_false (by rw [HFB.out]; exact fits_bad HRR.out (rowB_val (by rw [HRN.out]; exact hz))) _ hkd])
                  clear hz
                  go_wp2_with fail
                  go_ret
                  exact ⟨retB HF.out.symm, HEw6.out⟩
                | true =>
                  have HZ2 := Lib.hid hz
                  clear hz
                  go_wp2_with fail
                  go_loopw [10] (fun i wz => ∃ n : Nat, n ≤ r.args.length ∧ i = .int .i64 n ∧ Hid (Ext NoB w6 wz ∧ argsTo f.args r.args m.sizes n = true)) (fun i _ => r.args.length - (intOf i).toNat)
                  case atStart => exact ⟨0, by omega, rfl, Lib.hid ⟨Ext.refl _ _, rfl⟩⟩
                  case round =>
                    obtain ⟨n, hn, rfl, HZZ⟩ := hrel
                    obtain ⟨b0, b1⟩ := HBM.out.ext (HE0r.out.trans (HE6.out.trans HZZ.out.1)) (fun h => h)
                    obtain ⟨r0, r1⟩ := HRB6.out.ext HZZ.out.1 (fun h => h)
                    have f1 := (HE6.out.trans HZZ.out.1).cell HBF.out.2.1 id
                    have lr := cell_lt r0
                    by_cases hna : n < r.args.length
                    · obtain ⟨z, hz⟩ := at_some hna
                      have hnf : n < f.args.length := by have := E3.out; omega
                      obtain ⟨_, _, hv, _, _, hr⟩ := Kd.one_slice (kZs.oneExt HARG6.out HZZ.out.1.no)
                      injection hv with hv1 hv2 hv3
                      subst hv1
                      clear hv2 hv3
                      obtain ⟨zb, zo, hA, _, hrow⟩ := hr (ne_nil_of_lt hna)
                      subst hA
                      obtain ⟨Za, za, ⟨z0, z1⟩, hzd⟩ := row_z hrow hz
                      obtain ⟨_, _, hv, _, _, hr⟩ := Kd.one_slice (kInts.oneExt HFA5.out (HE6.out.trans HZZ.out.1).no)
                      injection hv with hv1 hv2 hv3
                      subst hv1
                      clear hv2 hv3
                      obtain ⟨ab, ao, hI, _, a0, _⟩ := ints_at hr hnf
                      subst hI
                      obtain ⟨q0, q1⟩ := HG1.out n hnf
                      obtain ⟨sn, hsn⟩ : ∃ sn : Nat, rdI f.args n = (sn : Int) := ⟨(rdI f.args n).toNat, by omega⟩
                      have HSN : Hid ((rdI f.args n).toNat = sn) := Lib.hid (by omega)
                      have hsl : sn < m.sizes.length := by omega
                      rw [hsn] at a0
                      have HAT : Hid (atZ r.args n = z) := Lib.hid (atZ_eq hz)
                      have HZL : Hid (ZLen z) := Lib.hid (HRL.out.2.2 z (List.mem_of_getElem? hz))
                      have HZD := Lib.hid (z_agg (kDigs.oneExt hzd (Ext.refl NoB wr).drew.no))
                      have HMZ := Lib.hid (kModel.aggExt HMV5.out (HE6.out.trans (HZZ.out.1.trans (Ext.refl NoB wr).drew)))
                      have HST3 : Hid (wr.drew.cell? ⟨w.heap.size + 1, 0, none⟩ = some (.slice B1 m.sizes.length c1) ∧ wr.drew.cell? ⟨w.heap.size + 1, 1, none⟩ = some (.slice (some ⟨tb, tof, none⟩) m.funs.length c2) ∧ wr.drew.cell? ⟨fg, 1, none⟩ = some (.slice (some ⟨ab, ao, none⟩) f.args.length fac) ∧ wr.drew.cell? ⟨ab, ao + n, none⟩ = some (.int .i64 (sn : Int)) ∧ wr.drew.cell? ⟨rg, 0, none⟩ = some (.slice (some ⟨zb, zo, none⟩) r.args.length ra) ∧ wr.drew.cell? ⟨zb, zo + n * 2, none⟩ = some (.bool z.neg) ∧ wr.drew.cell? ⟨zb, zo + n * 2 + 1, none⟩ = some (.slice Za z.digs.length za)) := Lib.hid ⟨b0, b1, f1, a0, r0, z0, z1⟩
                      have j1 : (n : Int) < (f.args.length : Int) := by omega
                      have j2 : (n : Int) < (r.args.length : Int) := by omega
                      clear hr hrow hzd hz q0 q1 hsn
                      go_wp2_with fail
                      refine wpM_begin (fun W => W.cell? ⟨w.heap.size + 1, 0, none⟩ = some (.slice B1 m.sizes.length c1) ∧ W.cell? ⟨w.heap.size + 1, 1, none⟩ = some (.slice (some ⟨tb, tof, none⟩) m.funs.length c2) ∧ W.cell? ⟨fg, 1, none⟩ = some (.slice (some ⟨ab, ao, none⟩) f.args.length fac) ∧ W.cell? ⟨ab, ao + n, none⟩ = some (.int .i64 (sn : Int)) ∧ W.cell? ⟨rg, 0, none⟩ = some (.slice (some ⟨zb, zo, none⟩) r.args.length ra) ∧ W.cell? ⟨zb, zo + n * 2, none⟩ = some (.bool z.neg) ∧ W.cell? ⟨zb, zo + n * 2 + 1, none⟩ = some (.slice Za z.digs.length za)) [11] [0, 1, 2, 3, 4, 5, 6, 7, 8, 9, 10] (by kernel_rfl) (by kernel_rfl) (HST3.out) (fun hS0 hA => ?_)
                      refine wpM_take 0 hA hS0 rfl (by kernel_rfl) rfl (by intro w hs; (try dsimp only at hs); go_simp; try rfl) ?_; (try simp only [Act.put, List.setIfInBounds_toArray, List.set_cons_zero, List.set_cons_succ])
                      refine wpM_free 1 rfl (by kernel_rfl) rfl (by intro w; go_simp; try rfl) ?_; (try simp only [Act.put, List.setIfInBounds_toArray, List.set_cons_zero, List.set_cons_succ])
                      refine wpM_take 2 hA hS0 rfl (by kernel_rfl) rfl (by intro w hs; (try dsimp only at hs); go_simp; try rfl) ?_; (try simp only [Act.put, List.setIfInBounds_toArray, List.set_cons_zero, List.set_cons_succ])
                      refine wpM_free 3 rfl (by kernel_rfl) rfl (by intro w; go_simp; try rfl) ?_; (try simp only [Act.put, List.setIfInBounds_toArray, List.set_cons_zero, List.set_cons_succ])
                      refine wpM_free 4 rfl (by kernel_rfl) rfl (by intro w; go_simp; try rfl) ?_; (try simp only [Act.put, List.setIfInBounds_toArray, List.set_cons_zero, List.set_cons_succ])
                      refine wpM_take 5 hA hS0 rfl (by kernel_rfl) rfl (by intro w hs; (try dsimp only at hs); go_simp; try rfl) ?_; (try simp only [Act.put, List.setIfInBounds_toArray, List.set_cons_zero, List.set_cons_succ])
                      refine wpM_free 6 rfl (by kernel_rfl) rfl (by intro w; go_simp; try rfl) ?_; (try simp only [Act.put, List.setIfInBounds_toArray, List.set_cons_zero, List.set_cons_succ])
                      refine wpM_take 7 hA hS0 rfl (by kernel_rfl) rfl (by intro w hs; (try dsimp only at hs); go_simp; try rfl) ?_; (try simp only [Act.put, List.setIfInBounds_toArray, List.set_cons_zero, List.set_cons_succ])
                      refine wpM_free 8 rfl (by kernel_rfl) rfl (by intro w; go_simp; try rfl) ?_; (try simp only [Act.put, List.setIfInBounds_toArray, List.set_cons_zero, List.set_cons_succ])
                      refine wpM_free 9 rfl (by kernel_rfl) rfl (by intro w; go_simp; try rfl) ?_; (try simp only [Act.put, List.setIfInBounds_toArray, List.set_cons_zero, List.set_cons_succ])
                      refine wpM_take 10 hA hS0 rfl (by kernel_rfl) rfl (by intro w hs; (try dsimp only at hs); go_simp; try rfl) ?_; (try simp only [Act.put, List.setIfInBounds_toArray, List.set_cons_zero, List.set_cons_succ])
                      refine wpM_last 11 rfl (by kernel_rfl) (by decide) (fun K hK => ?_)
                      go_simp
                      refine (c_rThing m _ z _ sn NoB HMZ.out HZD.out (fun _ h => h.elim) hsl HZL.out (fun h => HSA.out _ h hsl)).mono ?_
                      rintro e w7 ⟨rfl, hq⟩
                      have HE7 := Lib.hid (HZZ.out.1.trans ((Ext.refl NoB wr).drew.trans hq))
                      clear hq
                      refine hK.out _ _ ?_
                      clear hK K; (try simp only [Act.put, List.setIfInBounds_toArray, List.set_cons_zero, List.set_cons_succ])
                      refine wpM_free 12 rfl (by kernel_rfl) rfl (by intro w; go_simp; try rfl) ?_; (try simp only [Act.put, List.setIfInBounds_toArray, List.set_cons_zero, List.set_cons_succ])
                      refine wpM_done (by kernel_rfl) ?_
                      clear hS0
                      cases hz : thingB z sn m.sizes with
                      | false =>
                        have HF : Hid (modelB d m = false) := Lib.hid (by rw [HM'.out, funsTo_false (by rw [HFB.out]; exact fits_bad HRR.out (rowB_arg hna (by rw [HAT.out, HSN.out]; exact hz))) _ hkd])
                        clear hz
                        go_wp2_with fail
                        go_ret
                        exact ⟨retB HF.out.symm, HEw6.out.trans HE7.out⟩
                      | true =>
                        have HA2 : Hid (argsTo f.args r.args m.sizes (n + 1) = true) := Lib.hid (by rw [argsTo, HZZ.out.2, HAT.out, HSN.out, hz]; rfl)
                        clear hz
                        go_wp2_with fail
                        exact ⟨⟨n + 1, by omega, by go_num, Lib.hid ⟨HE7.out, HA2.out⟩⟩, by simp [intOf]; omega⟩
                    · obtain rfl : n = r.args.length := by omega
                      have HRO : Hid (rowB f m.sizes r = true) := Lib.hid (rowB_ok E3.out (by rw [HRN.out]; exact HZ2.out) HZZ.out.2)
                      clear hna
                      go_wp2_with fail
                      exact ⟨⟨j + 1, by omega, by go_num, Lib.hid ⟨HE6.out.trans HZZ.out.1, all_snoc HRR.out HALL.out HRO.out⟩⟩, by simp [intOf]; omega⟩
              · obtain rfl : j = t.rows.length := by omega
                have HFT2 : Hid (funsTo d m (k + 1) = true) := Lib.hid (by rw [funsTo, HFT.out, HFB.out, fits_end HQ.out.2, HRN.out, HZ.out]; rfl)
                clear hja
                go_wp2_with fail
                exact ⟨⟨k + 1, by omega, by go_num, Lib.hid ⟨HE0r.out.trans HQ.out.1, HFT2.out⟩⟩, by simp [intOf]; omega⟩
        · obtain rfl : k = m.funs.length := by omega
          have HF : Hid (modelB d m = true) := Lib.hid (by rw [HM'.out, ← E2.out, HR.out.2])
          clear hlt
          go_wp2_with fail
          go_ret
          exact ⟨retB HF.out.symm, HEr.out⟩
end
end Go.Proofs.YtfpmapbimhdafaaGreatDoor
