/- Contracts: a small number as text; a sort's key. Contracts: a sort's key; no two sorts have the same. An arena as it lies in memory: its rows, its map, its buckets; what keeps it. Contracts: what an arena is asked for and doesn't turn by: its length, a term, a term's sort. Contracts: a term of an arena in memory of its own; its sorts and functions likewise. What a right term is; contracts: an arena finds nothing wrong with one. Contracts: the sort that a kid must have; a term's sort; an arena finds nothing wrong with the sorts or the products of a right term. Contracts: an arena finds nothing wrong with the sorts or the products of a right term; its sort; whether two terms are one; a hash. Contracts: whether two terms are one; a hash; whether places are sorts. What an arena is behind an append to one of its rows. What an arena is behind an append to a bucket, or with new buckets. -/
import Derived.Test.YtfpmapbimhdafaaGreatDoorPD
import Derived.Laws.EntriesVeiled
import Derived.WideMake
import Derived.Shelf.Strconv.Itoa1
import Derived.Shelf.Lays
import Derived.Ground.NamesProg
import Derived.Lib.AppendStr
import Derived.Laws.IdiomStrings
import Derived.Shelf.Lay
namespace Go.Proofs
open Go.Shelf
def Tryz.laysSmall_ren : Go.Shelf.Ren := ⟨fun | 283 => 135 | n => n, fun | 3 => 3 | 9 => 9 | 4 => 4 | n => n, fun n => n⟩
theorem Tryz.laysSmall : Lays.n283 Tryz.prog Tryz.laysSmall_ren := ⟨by kernel_rfl, Tryz.func135.trans (congrArg some (by kernel_rfl)), Tryz.underlying3, Tryz.isAgg3, Tryz.sizeOf3, Tryz.zeroValue3, Tryz.underlying4, Tryz.isAgg4, Tryz.sizeOf4, Tryz.zeroValue4, Tryz.underlying9, Tryz.isAgg9, Tryz.sizeOf9, Tryz.zeroValue9⟩
end Go.Proofs
namespace Go.Proofs.YtfpmapbimhdafaaGreatDoor
open Go.RowKit Go.Shelf
set_option linter.unusedVariables false
set_option linter.unusedSimpArgs false

theorem c_small (i : Nat) (h : i < 100) (w : World) : Calls Tryz.prog 135 #[.int .i64 (i : Int)] w fun e w' => e = .returned (.string ⟨(Lib.decDigits i).toArray⟩) ∧ w' = w :=
  Any.internal_strconv_small Tryz.laysSmall i h w

abbrev kB : Kd Int := Kd.int .u8
theorem info_u8 : (Tryz.prog.info? 5).map (fun i => (i.zero, i.size, i.bytes)) = some (some (.int .u8 0), 1, 1) := by kernel_rfl
def byI (l : List UInt8) : List Int := l.map fun b => (b.toNat : Int)
theorem byI_append (l m : List UInt8) : byI (l ++ m) = byI l ++ byI m := List.map_append
theorem wf_u8 (b : UInt8) : (Lit.int .u8 (b.toNat : Int)).wf = true := by
  have h1 := b.toNat_lt
  have h2 : IntKind.u8.min = 0 := by decide
  have h3 : IntKind.u8.max = 255 := by decide
  simp only [Lit.wf, h2, h3, Bool.and_eq_true, decide_eq_true_eq]
  omega
theorem Own.raw1 {ik : IntKind} {w : World} {base : Nat} {e : TypeId} {O : Nat → Prop} {v : Value} {xs : List Int} (h : Own w base e (Kd.int ik) O v xs) : w.ownsRow base e 1 v xs.length (xs.map (Value.int ik)) := by
  obtain ⟨css, r1, r2⟩ := h
  have : css.flatten = xs.map (Value.int ik) := by
    clear r1
    induction r2 with
    | nil => rfl
    | cons h _ ih => rw [List.flatten_cons, h.1, ih]; rfl
  rw [this] at r1
  exact r1
theorem Own.ofRaw1 {ik : IntKind} {w : World} {base : Nat} {e : TypeId} {O : Nat → Prop} {v : Value} {xs : List Int} (h : w.ownsRow base e 1 v xs.length (xs.map (Value.int ik))) (hw : ∀ x ∈ xs, (Lit.int ik x).wf = true) : Own w base e (Kd.int ik) O v xs := by
  refine ⟨xs.map fun x => [Value.int ik x], ?_, ?_⟩
  · have : (xs.map fun x => [Value.int ik x]).flatten = xs.map (Value.int ik) := by
      clear h hw
      induction xs with
      | nil => rfl
      | cons x l ih => rw [List.map_cons, List.flatten_cons, ih]; rfl
    rw [this]
    exact h
  · clear h
    induction xs with
    | nil => exact .nil
    | cons x l ih => exact .cons ⟨rfl, hw x (List.mem_cons_self ..)⟩ (ih fun y hy => hw y (List.mem_cons_of_mem _ hy))
theorem Own.wf1 {ik : IntKind} {w : World} {base : Nat} {e : TypeId} {O : Nat → Prop} {v : Value} {xs : List Int} (h : Own w base e (Kd.int ik) O v xs) : ∀ x ∈ xs, (Lit.int ik x).wf = true := by
  obtain ⟨css, r1, r2⟩ := h
  clear r1
  induction r2 with
  | nil => intro x hx; cases hx
  | cons h _ ih =>
    intro x hx
    rcases List.mem_cons.1 hx with rfl | hx
    · exact h.2
    · exact ih x hx
theorem ext_grown {w w' : World} {v : Value} (h : w.grownBy w' v.ownBlock) : Ext (fun b => v.ownBlock = some b) w w' :=
  ⟨h.os, h.tape, h.output, h.size, fun b hb hn => h.block b hb fun e => hn e.symm⟩

/-- 'append(v, s...)', s a string. -/
theorem wpl_append_str {P : Program} {ops : Array Oper} {rest : List Oper} {o : Oper} {a : Act} {Q : Exit → Act → World → Prop} {w : World} (hgd : o.guard = none) (s x : Operand) (t u : TypeId)
    (ho : o.op = .call { callee := .builtin .append, args := #[s, x], argTypes := #[t, u] })
    (base : Nat) (e : TypeId) (ht : P.underlying t = some (.slice e)) (hu : P.underlying u = some .string)
    (hinfo : (P.info? e).map (fun i => (i.zero, i.size, i.bytes)) = some (some (.int .u8 0), 1, 1)) (O : Nat → Prop)
    (v : Value) (hs : a.eval s = v) (xs : List Int) (hown : Own w base e kB O v xs) (l : List UInt8) (hx : a.eval x = .string ⟨l.toArray⟩)
    (hbytes : xs.length + l.length ≤ 140737488355328) (hbase : base ≤ w.heap.size)
    (h : ∀ v' w', Own w' base e kB O v' (xs ++ byI l) → Ext (fun b => v.ownBlock = some b) w w' → wpList P ops Q rest (a.put o.dst v') w') : wpList P ops Q (o :: rest) a w := by
  obtain ⟨i, hi, hzz⟩ := Option.map_eq_some_iff.1 hinfo
  simp only [Prod.mk.injEq] at hzz
  obtain ⟨hz0, hz1, hz2⟩ := hzz
  have hsz : (⟨l.toArray⟩ : ByteArray).size = l.length := rfl
  refine Lib.wpList_append_own_string w hgd s x t u ho base e i ht hu hi hz0 hz1 hz2 v xs.length _ hs hown.raw1 _ hx (by rw [hsz]; simp only [maxLen]; omega) (by rw [hsz]; exact hbytes) hbase ?_
  intro v' w' h1 h2 _
  refine h v' w' (Own.ofRaw1 ?_ ?_) (ext_grown h2)
  · rw [List.length_append, List.map_append]
    have e1 : (byI l).length = l.length := by simp [byI]
    rw [e1]
    have e2 : (byI l).map (Value.int .u8) = Lib.strCells ⟨l.toArray⟩ := by simp [byI, Lib.strCells]
    rw [e2]
    exact h1
  · intro y hy
    rcases List.mem_append.1 hy with hy | hy
    · exact hown.wf1 y hy
    · obtain ⟨b, _, rfl⟩ := List.mem_map.1 hy
      exact wf_u8 b

def decB (n : Int) : List UInt8 := Lib.decDigits n.toNat
theorem decB_len {n : Int} (h : n < 100) : (decB n).length ≤ 2 := by
  unfold decB
  by_cases h1 : n.toNat < 10
  · rw [Lib.decDigits_one h1]; simp
  · rw [Lib.decDigits_two h1 (by omega)]; simp
set_option maxRecDepth 100000 in
set_option maxHeartbeats 1000000 in
theorem c_AppendUint (n : Nat) (hn : n < 100) (v : Value) (xs : List Int) (w : World) (base : Nat) (O : Nat → Prop) (ho : Own w base 5 kB O v xs) (hb : base ≤ w.heap.size) (hl : xs.length ≤ 1000000) :
    Calls Tryz.prog 129 #[v, .int .u64 (n : Int), .int .i64 10] w fun e w' => ∃ v', e = .returned v' ∧ Own w' base 5 kB O v' (xs ++ byI (decB n)) ∧ Ext (fun b => v.ownBlock = some b) w w' := by
  have HO := Lib.hid ho
  have HL : Hid ((Lib.decDigits n).length ≤ 2) := Lib.hid (by have := decB_len (n := (n : Int)) (by omega); unfold decB at this; simpa using this)
  clear ho
  go_enter Tryz.func129, Tryz.ntmps129
  go_wp2_with fail
  refine (c_small n hn _).mono ?_
  rintro e w1 ⟨rfl, rfl⟩
  go_wp2_with (at_builtin; refine wpl_append_str rfl (.tmp 13) (.tmp 16) 160 9 rfl base 5 Tryz.underlying160 Tryz.underlying9 info_u8 O _ rfl xs HO.out (Lib.decDigits n) rfl (by have := HL.out; omega) hb ?_; intro v2 w2 hO2 hE2)
  go_ret
  exact ⟨_, rfl, hO2, hE2⟩
set_option maxRecDepth 100000 in
set_option maxHeartbeats 1000000 in
theorem c_iAppendInt (n : Nat) (hn : n < 100) (v : Value) (xs : List Int) (w : World) (base : Nat) (O : Nat → Prop) (ho : Own w base 5 kB O v xs) (hb : base ≤ w.heap.size) (hl : xs.length ≤ 1000000) :
    Calls Tryz.prog 118 #[v, .int .i64 (n : Int), .int .i64 10] w fun e w' => ∃ v', e = .returned v' ∧ Own w' base 5 kB O v' (xs ++ byI (decB n)) ∧ Ext (fun b => v.ownBlock = some b) w w' := by
  have HO := Lib.hid ho
  clear ho
  go_enter Tryz.func118, Tryz.ntmps118
  go_wp2_with fail
  refine (c_AppendUint n hn v xs _ base O HO.out hb hl).mono ?_
  rintro e w1 ⟨v1, rfl, h1, h2⟩
  go_wp2_with fail
  go_ret
  exact ⟨_, rfl, h1, h2⟩
set_option maxRecDepth 100000 in
set_option maxHeartbeats 1000000 in
theorem c_AppendInt (n : Nat) (hn : n < 100) (v : Value) (xs : List Int) (w : World) (base : Nat) (O : Nat → Prop) (ho : Own w base 5 kB O v xs) (hb : base ≤ w.heap.size) (hl : xs.length ≤ 1000000) :
    Calls Tryz.prog 110 #[v, .int .i64 (n : Int), .int .i64 10] w fun e w' => ∃ v', e = .returned v' ∧ Own w' base 5 kB O v' (xs ++ byI (decB n)) ∧ Ext (fun b => v.ownBlock = some b) w w' := by
  have HO := Lib.hid ho
  clear ho
  go_enter Tryz.func110, Tryz.ntmps110
  go_wp2_with fail
  refine (c_iAppendInt n hn v xs _ base O HO.out hb hl).mono ?_
  rintro e w1 ⟨v1, rfl, h1, h2⟩
  go_wp2_with fail
  go_ret
  exact ⟨_, rfl, h1, h2⟩
end Go.Proofs.YtfpmapbimhdafaaGreatDoor

namespace Go.Proofs.YtfpmapbimhdafaaGreatDoor
open Go.RowKit Go.Shelf
set_option linter.unusedVariables false
set_option linter.unusedSimpArgs false

/-- 'string(v)', v a row of bytes. -/
theorem wpl_string {P : Program} {ops : Array Oper} {rest : List Oper} {o : Oper} {a : Act} {Q : Exit → Act → World → Prop} {w : World} (hgd : o.guard = none) (x : Operand) (src dst e : TypeId)
    (ho : o.op = .convert src dst x) (hs : P.underlying src = some (.slice e)) (he : P.underlying e = some (.int .u8)) (hd : P.underlying dst = some .string)
    (base : Nat) (te : TypeId) (O : Nat → Prop) (v : Value) (hx : a.eval x = v) (l : List UInt8) (hown : Own w base te kB O v (byI l)) (hne : 0 < l.length)
    (h : wpList P ops Q rest (a.put o.dst (.string ⟨l.toArray⟩)) w) : wpList P ops Q (o :: rest) a w := by
  have hlen : (byI l).length = l.length := by simp [byI]
  obtain ⟨g, c, rfl⟩ := hown.form (by omega)
  rw [hlen] at hx hown
  have hr := run_convert_bytes_back (P := P) w src dst e ⟨g, 0, none⟩ c l hs he hd (fun j hj => by
    have h1 := (hown.int_at (k := j) (by omega)).1
    rw [add_at, Nat.zero_add, h1, rdI_eq (by omega)]
    simp [byI])
  refine wpList_plain hgd fun K hK => ?_
  unfold Oper.wp execOp
  simp only [ho, Sem.run_bind, hx, hr, Result.andThen_ok, Sem.run_pure]
  exact hK _ _ h

def keyB (args : List Int) : List UInt8 := args.flatMap fun a => decB a ++ [44]
def keyOf (name : ByteArray) (args : List Int) : ByteArray := ⟨(keyB args ++ [58] ++ name.data.toList).toArray⟩
/-- All are sorts' places, of which there may be some. -/
def ArgsOk (n : Nat) (args : List Int) : Prop := ∀ k, k < args.length → 0 ≤ rdI args k ∧ rdI args k < n
theorem keyB_take {args : List Int} {k : Nat} (hk : k < args.length) : keyB (args.take (k + 1)) = keyB (args.take k) ++ decB (rdI args k) ++ [44] := by
  rw [List.take_add_one, List.getElem?_eq_getElem hk, keyB, List.flatMap_append, ← keyB, rdI_eq hk]
  simp
theorem keyB_len {args : List Int} (h : ArgsOk 100 args) : ∀ k, k ≤ args.length → (keyB (args.take k)).length ≤ 3 * k
  | 0, _ => by simp [keyB]
  | k + 1, hk => by
    have ih := keyB_len h k (by omega)
    have := decB_len (n := rdI args k) (h k (by omega)).2
    rw [keyB_take (by omega), List.length_append, List.length_append]
    simp only [List.length_cons, List.length_nil]
    omega

set_option maxRecDepth 100000 in
set_option maxHeartbeats 1000000 in
theorem c_sortKey (name : ByteArray) (va : Value) (args : List Int) (w : World) (O : Nat → Prop) (ha : kInts.one w O args va) (hO : OldO O w) (hok : ArgsOk 100 args) (hl : args.length ≤ 1000) (hn : name.size ≤ 1000) :
    Calls Tryz.prog 97 #[.string name, va] w fun e w' => e = .returned (.string (keyOf name args)) ∧ Ext NoB w w' := by
  obtain ⟨A, c, rfl, hl', hm, hr⟩ := Kd.one_slice ha
  have HR := Lib.hid hr
  have HO := Lib.hid hO
  have HK := Lib.hid hok
  clear hr ha hO hok
  go_enter Tryz.func97, Tryz.ntmps97
  go_wp2_with fail
  go_loopw [5, 10] (fun v i wr => ∃ (k : Nat), k ≤ args.length ∧ i = .int .i64 k ∧ Hid (Own wr w.heap.size 5 kB O v (byI (keyB (args.take k)))) ∧ Hid (Ext NoB w wr)) (fun _ i _ => args.length - (intOf i).toNat)
  case atStart => exact ⟨0, Nat.zero_le _, rfl, Lib.hid (by simpa [keyB, byI] using Own.nil (k := kB) w w.heap.size 5 O), Lib.hid (Ext.refl _ _)⟩
  case round =>
    obtain ⟨k, hk, rfl, HOW, HX⟩ := hrel
    have hlen : (byI (keyB (args.take k))).length ≤ 3 * k := by have := keyB_len HK.out k hk; simpa [byI] using this
    by_cases hlt : k < args.length
    · obtain ⟨b, off, rfl, _, x1, _⟩ := ints_at HR.out hlt
      replace x1 := HX.out.cell x1 (fun h => h)
      obtain ⟨q, hq⟩ : ∃ q : Nat, rdI args k = (q : Int) := ⟨(rdI args k).toNat, by have := (HK.out k hlt).1; omega⟩
      have hq1 : q < 100 := by have := (HK.out k hlt).2; omega
      have HT := Lib.hid (keyB_take hlt)
      rw [hq] at x1 HT
      have HQ := Lib.hid hq
      clear hq
      go_wp2_with fail
      refine (c_AppendInt q hq1 _ _ _ w.heap.size O HOW.out HX.out.size (by omega)).mono ?_
      rintro e w1 ⟨v1, rfl, hown1, he1⟩
      have HX1 := Lib.hid (HX.out.then he1 (fun i hi h => by have := (HOW.out.base h).1; omega))
      have HOW1 := Lib.hid hown1
      have hl1 : (byI (keyB (args.take k)) ++ byI (decB q)).length ≤ 3 * k + 2 := by
        have := decB_len (n := (q : Int)) (by omega)
        rw [List.length_append]
        simp only [byI, List.length_map] at hlen ⊢
        omega
      clear hown1 he1
      go_wp2_with (at_builtin; refine wpl_append1 kB Nat.one_pos rfl (.tmp 17) (.tmp 18) 160 rfl w.heap.size 5 _ 1 Tryz.underlying160 info_u8 rfl O _ rfl _ HOW1.out rfl 44 [_] ⟨rfl, by decide⟩ (HO.out.ext HX1.out) (by omega) (by omega) HX1.out.size ?_; intro v2 w2 hO2 hE2 hat2)
      have HX2 := Lib.hid (HX1.out.then hE2 (fun i hi h => by have := (HOW1.out.base h).1; omega))
      have HF : byI (keyB (args.take k)) ++ byI (decB q) ++ [44] = byI (keyB (args.take (k + 1))) := by
        rw [HT.out, byI_append, byI_append]; rfl
      rw [HF] at hO2
      clear hE2 hat2
      exact ⟨⟨k + 1, by omega, by go_num, Lib.hid hO2, HX2⟩, by simp [intOf]; omega⟩
    · have hkn : k = args.length := by omega
      subst hkn
      rw [List.take_length] at HOW hlen
      have hnl : name.data.toList.length = name.size := rfl
      go_wp2_with (first
        | (at_builtin; refine wpl_append1 kB Nat.one_pos rfl (.tmp 21) (.tmp 22) 160 rfl w.heap.size 5 _ 1 Tryz.underlying160 info_u8 rfl O _ rfl _ HOW.out rfl 58 [_] ⟨rfl, by decide⟩ (HO.out.ext HX.out) (by omega) (by omega) HX.out.size ?_; intro v2 w2 hO2 hE2 hat2;
            (have HX2 := Lib.hid (HX.out.then hE2 (fun i hi h => by have := (HOW.out.base h).1; omega))); (have HOW2 := Lib.hid hO2);
            (have hl2 : (byI (keyB args) ++ [58]).length ≤ 3 * args.length + 1 := by rw [List.length_append]; simp only [List.length_cons, List.length_nil]; omega); clear hO2 hE2 hat2)
        | (at_builtin; refine wpl_append_str rfl (.tmp 24) (.tmp 25) 160 9 rfl w.heap.size 5 Tryz.underlying160 Tryz.underlying9 info_u8 O _ rfl _ HOW2.out name.data.toList rfl (by omega) HX2.out.size ?_; intro v3 w3 hO3 hE3; (have HOW3 := Lib.hid hO3); (have HX3 := Lib.hid (HX2.out.then hE3 (fun i hi h => by have := (HOW2.out.base h).1; omega))); clear hO3 hE3; refine wpl_string rfl (.tmp 26) 160 9 5 rfl Tryz.underlying160 Tryz.underlying5 Tryz.underlying9 w.heap.size 5 O _ rfl (keyB args ++ [58] ++ name.data.toList) (by rw [byI_append, byI_append]; exact HOW3.out) (by simp; omega) ?_))
      go_ret
      exact ⟨by simp [keyOf], HX3.out⟩

/-! No two sorts have one key. -/
theorem split_first {u v : List UInt8} {x y : UInt8} {r t : List UInt8} {p : UInt8 → Bool} (hu : ∀ b ∈ u, p b = true) (hv : ∀ b ∈ v, p b = true) (hx : p x = false) (hy : p y = false) (h : u ++ x :: r = v ++ y :: t) : u = v ∧ x = y ∧ r = t := by
  induction u generalizing v with
  | nil =>
    cases v with
    | nil => simp at h; exact ⟨rfl, h.1, h.2⟩
    | cons b v =>
      simp at h
      have := hv b (List.mem_cons_self ..)
      rw [← h.1, hx] at this
      cases this
  | cons a u ih =>
    cases v with
    | nil =>
      simp at h
      have := hu a (List.mem_cons_self ..)
      rw [h.1, hy] at this
      cases this
    | cons b v =>
      simp at h
      obtain ⟨h1, h2, h3⟩ := ih (v := v) (fun b hb => hu b (List.mem_cons_of_mem _ hb)) (fun b hb => hv b (List.mem_cons_of_mem _ hb)) h.2
      exact ⟨by rw [h.1, h1], h2, h3⟩
def digB (b : UInt8) : Bool := decide (48 ≤ b.toNat) && decide (b.toNat ≤ 57)
theorem ofNat_dig {k : Nat} (h : k < 10) : (UInt8.ofNat (48 + k)).toNat = 48 + k := by
  rw [UInt8.toNat_ofNat']
  omega
theorem decB_dig {n : Int} (h : n < 100) : ∀ b ∈ decB n, digB b = true := by
  unfold decB
  by_cases h1 : n.toNat < 10
  · rw [Lib.decDigits_one h1]
    intro b hb
    rw [List.mem_singleton.1 hb, digB, ofNat_dig h1]
    simp; omega
  · rw [Lib.decDigits_two h1 (by omega)]
    intro b hb
    have q1 : n.toNat / 10 < 10 := by omega
    have q2 : n.toNat % 10 < 10 := by omega
    rcases List.mem_cons.1 hb with rfl | hb
    · rw [digB, ofNat_dig q1]; simp; omega
    · rw [List.mem_singleton.1 hb, digB, ofNat_dig q2]; simp; omega
theorem decB_inj {n m : Int} (h0 : 0 ≤ n) (h : n < 100) (g0 : 0 ≤ m) (g : m < 100) (he : decB n = decB m) : n = m := by
  unfold decB at he
  by_cases h1 : n.toNat < 10 <;> by_cases g1 : m.toNat < 10
  · rw [Lib.decDigits_one h1, Lib.decDigits_one g1] at he
    have e1 := congrArg UInt8.toNat (List.cons.inj he).1
    rw [ofNat_dig h1, ofNat_dig g1] at e1
    omega
  · rw [Lib.decDigits_one h1, Lib.decDigits_two g1 (by omega)] at he
    simp at he
  · rw [Lib.decDigits_two h1 (by omega), Lib.decDigits_one g1] at he
    simp at he
  · rw [Lib.decDigits_two h1 (by omega), Lib.decDigits_two g1 (by omega)] at he
    have q1 : n.toNat / 10 < 10 := by omega
    have q2 : n.toNat % 10 < 10 := by omega
    have q3 : m.toNat / 10 < 10 := by omega
    have q4 : m.toNat % 10 < 10 := by omega
    have e1 := congrArg UInt8.toNat (List.cons.inj he).1
    have e2 := congrArg UInt8.toNat (List.cons.inj (List.cons.inj he).2).1
    rw [ofNat_dig q1, ofNat_dig q3] at e1
    rw [ofNat_dig q2, ofNat_dig q4] at e2
    omega
theorem keyB_inj : ∀ {xs ys : List Int} {r t : List UInt8}, ArgsOk 100 xs → ArgsOk 100 ys → keyB xs ++ 58 :: r = keyB ys ++ 58 :: t → xs = ys ∧ r = t
  | [], [], r, t, _, _, h => by simpa [keyB] using h
  | [], y :: ys, r, t, hx, hy, h => by
    have h0 := hy 0 (by simp)
    rw [rdI_eq (by simp)] at h0
    simp only [keyB, List.flatMap_nil, List.nil_append, List.flatMap_cons, List.append_assoc, List.cons_append] at h
    have := split_first (u := []) (v := decB y) (x := 58) (y := 44) (p := digB) (fun b hb => by cases hb) (decB_dig (by simpa using h0.2)) (by decide) (by decide) (by simpa using h)
    exact absurd this.2.1 (by decide)
  | x :: xs, [], r, t, hx, hy, h => by
    have h0 := hx 0 (by simp)
    rw [rdI_eq (by simp)] at h0
    simp only [keyB, List.flatMap_nil, List.nil_append, List.flatMap_cons, List.append_assoc, List.cons_append] at h
    have := split_first (u := decB x) (v := []) (x := 44) (y := 58) (p := digB) (decB_dig (by simpa using h0.2)) (fun b hb => by cases hb) (by decide) (by decide) (by simpa using h)
    exact absurd this.2.1 (by decide)
  | x :: xs, y :: ys, r, t, hx, hy, h => by
    have h0 := hx 0 (by simp)
    have h1 := hy 0 (by simp)
    rw [rdI_eq (by simp)] at h0 h1
    simp only [List.getElem_cons_zero] at h0 h1
    have e1 : keyB (x :: xs) ++ 58 :: r = decB x ++ 44 :: (keyB xs ++ 58 :: r) := by simp [keyB]
    have e2 : keyB (y :: ys) ++ 58 :: t = decB y ++ 44 :: (keyB ys ++ 58 :: t) := by simp [keyB]
    rw [e1, e2] at h
    obtain ⟨g1, _, g3⟩ := split_first (p := digB) (decB_dig h0.2) (decB_dig h1.2) (by decide) (by decide) h
    obtain ⟨g4, g5⟩ := keyB_inj (xs := xs) (ys := ys) (fun k hk => by simpa [rdI] using hx (k + 1) (by simpa using hk)) (fun k hk => by simpa [rdI] using hy (k + 1) (by simpa using hk)) g3
    exact ⟨by rw [decB_inj h0.1 h0.2 h1.1 h1.2 g1, g4], g5⟩
theorem keyOf_inj {n m : ByteArray} {xs ys : List Int} (hx : ArgsOk 100 xs) (hy : ArgsOk 100 ys) (h : keyOf n xs = keyOf m ys) : n = m ∧ xs = ys := by
  unfold keyOf at h
  injection h with h
  have h := congrArg Array.toList h
  simp only [List.append_assoc, List.cons_append, List.nil_append] at h
  obtain ⟨h1, h2⟩ := keyB_inj hx hy h
  refine ⟨?_, h1⟩
  cases n; cases m
  congr 1
  exact Array.ext' h2
end Go.Proofs.YtfpmapbimhdafaaGreatDoor

namespace Go.Proofs.YtfpmapbimhdafaaGreatDoor
open Go.RowKit
set_option linter.unusedVariables false
set_option linter.unusedSimpArgs false

theorem Own.move {α : Type} {k : Kd α} {w w' : World} {base : Nat} {e : TypeId} {O O1 O' : Nat → Prop} {v : Value} {xs : List α} (h : Own w base e k O v xs) (he : Ext O1 w w')
    (h1 : ∀ b, b < w.heap.size → O1 b → O b ∧ v.ownBlock ≠ some b) (h2 : ∀ b, b < w.heap.size → O' b → O b) : Own w' base e k O' v xs := by
  obtain ⟨css, r1, r2⟩ := h
  refine ⟨css, ?_, r2.mono fun x cs hx => k.keep hx fun b hb hn => ⟨fun hO => hO.elim (fun h => hn (.inl (h2 b hb h))) (fun h => hn (.inr h)), he.block b hb fun hO => hn (.inl (h1 b hb hO).1)⟩⟩
  obtain ⟨hl, r1⟩ := r1
  refine ⟨hl, ?_⟩
  rcases r1 with r1 | ⟨g, cap, cur, hv, hg, hh, r⟩
  · exact .inl r1
  · refine .inr ⟨g, cap, cur, hv, hg, he.heap hh fun hO => ?_, r⟩
    exact (h1 g (Array.getElem?_eq_some_iff.1 hh).1 hO).2 (by rw [hv]; rfl)
/-- The row's own block may be of O. -/
theorem Own.with_ {α : Type} {k : Kd α} {w : World} {base : Nat} {e : TypeId} {O O' : Nat → Prop} {v : Value} {xs : List α} (h : Own w base e k O v xs) (ho : ∀ b, O' b → O b ∨ v.ownBlock = some b) : Own w base e k O' v xs := by
  obtain ⟨css, r1, r2⟩ := h
  exact ⟨css, r1, r2.mono fun x cs hx => k.turn hx fun b _ hb => hb.elim (ho b) .inr⟩

/-- Any value of one cell. -/
def kAny : Kd Value where
  size := 1
  rep _ _ x cs := cs = [x] ∧ x.oneCell' = true
  len h := by rw [h.1]; rfl
  ones h := by rw [h.1]; intro u hu; rw [List.mem_singleton.1 hu]; exact h.2
  keep h _ := h

structure St where
  keyed : List Srt
  sorts : List Srt
  funs : List Fun
  terms : List Term
  ofs : List Int
  consts : List Bool
/-- The values that an arena's cells hold. -/
structure AV where
  sv : Value
  r : Nat
  fv : Value
  tv : Value
  ov : Value
  cv : Value
  bv : Value
  bs : List (Value × List Int)
def AV.own (A : AV) (p : Nat) : List (Option Nat) := some p :: some A.r :: A.sv.ownBlock :: A.fv.ownBlock :: A.tv.ownBlock :: A.ov.ownBlock :: A.cv.ownBlock :: A.bv.ownBlock :: A.bs.map (fun b => b.1.ownBlock)
def AV.mo (A : AV) (p : Nat) : Nat → Prop := fun b => some b ∈ A.own p
def Sep (L : List (Option Nat)) : Prop := L.Pairwise (fun a b => a = none ∨ a ≠ b)
theorem Sep.ne {L : List (Option Nat)} (h : Sep L) {i j : Nat} {b : Nat} (hi : L[i]? = some (some b)) (hj : L[j]? = some (some b)) : i = j := by
  rcases Nat.lt_trichotomy i j with hlt | he | hlt
  · obtain ⟨hi', hi⟩ := List.getElem?_eq_some_iff.1 hi
    obtain ⟨hj', hj⟩ := List.getElem?_eq_some_iff.1 hj
    have := List.pairwise_iff_getElem.1 h i j hi' hj' hlt
    rw [hi, hj] at this
    simp at this
  · exact he
  · obtain ⟨hi', hi⟩ := List.getElem?_eq_some_iff.1 hi
    obtain ⟨hj', hj⟩ := List.getElem?_eq_some_iff.1 hj
    have := List.pairwise_iff_getElem.1 h j i hj' hi' hlt
    rw [hi, hj] at this
    simp at this
theorem Sep.set {L : List (Option Nat)} (h : Sep L) (i : Nat) {y : Option Nat} (hy : L[i]? = some y ∨ ∀ b, y = some b → some b ∉ L) : Sep (L.set i y) := by
  rcases hy with hy | hy
  · obtain ⟨hi, rfl⟩ := List.getElem?_eq_some_iff.1 hy
    rw [List.set_getElem_self]
    exact h
  · refine List.pairwise_iff_getElem.2 fun a b ha hb hab => ?_
    rw [List.length_set] at ha hb
    rw [List.getElem_set, List.getElem_set]
    have h0 := List.pairwise_iff_getElem.1 h a b ha hb hab
    split
    · rename_i hia
      split
      · omega
      · rcases y with _ | g
        · exact .inl rfl
        · refine .inr fun e => hy g rfl ?_
          rw [e]
          exact List.getElem_mem (l := L) (by simpa using hb)
    · split
      · rcases hyy : L[a] with _ | g
        · exact .inl rfl
        · refine .inr fun e => hy g e.symm ?_
          rw [← hyy]
          exact List.getElem_mem ha
      · exact h0

theorem bEqB (a b : ByteArray) : (a == b) = true ↔ a = b := by
  cases a; cases b
  show (ByteArray.beq _ _) = true ↔ _
  unfold ByteArray.beq
  simp
/-- The entries of the map of sorts. -/
def keyList : List Srt → Nat → List (ByteArray × Value)
  | [], _ => []
  | s :: l, i => (keyOf s.name s.args, .int .i64 (i : Int)) :: keyList l (i + 1)
theorem keyList_append (s : Srt) : ∀ (l : List Srt) (i : Nat), keyList (l ++ [s]) i = keyList l i ++ [(keyOf s.name s.args, .int .i64 ((i + l.length : Nat) : Int))]
  | [], i => rfl
  | a :: l, i => by
    rw [List.cons_append, keyList, keyList_append s l (i + 1), keyList, List.length_cons, show i + 1 + l.length = i + (l.length + 1) by omega]
    rfl
theorem lookK_none {key : ByteArray} : ∀ {l : List Srt} {i : Nat}, (∀ s ∈ l, keyOf s.name s.args ≠ key) → lookK key (keyList l i) = none
  | [], _, _ => rfl
  | a :: l, i, h => by
    rw [keyList, lookK, if_neg (by rw [bEqB]; exact fun e => h a (List.mem_cons_self ..) e.symm)]
    exact lookK_none fun s hs => h s (List.mem_cons_of_mem _ hs)
theorem lookK_hit {key : ByteArray} {s : Srt} (hk : keyOf s.name s.args = key) : ∀ {l : List Srt} {i j : Nat}, l[j]? = some s → (∀ k x, k < j → l[k]? = some x → keyOf x.name x.args ≠ key) → lookK key (keyList l i) = some (.int .i64 ((i + j : Nat) : Int))
  | [], i, j, h, _ => by simp at h
  | a :: l, i, 0, h, _ => by
    simp at h
    subst h
    rw [keyList, lookK, if_pos (by rw [bEqB]; exact hk.symm)]
    rfl
  | a :: l, i, j + 1, h, hn => by
    rw [keyList, lookK, if_neg (by rw [bEqB]; exact fun e => hn 0 a (Nat.succ_pos _) rfl e.symm), lookK_hit hk (l := l) (i := i + 1) (j := j) (by simpa using h) (fun k x hk hx => hn (k + 1) x (by omega) (by simpa using hx))]
    rw [show i + 1 + j = i + (j + 1) by omega]

/-- An arena. -/
structure Arena (w : World) (O : Nat → Prop) (p : Nat) (A : AV) (S : St) : Prop where
  old : OldO O w
  mo : ∀ b, A.mo p b → O b
  sep : Sep (A.own p)
  c0 : w.cell? ⟨p, 0, none⟩ = some (.int .i64 1048576)
  c1 : w.cell? ⟨p, 1, none⟩ = some A.sv
  c2 : w.cell? ⟨p, 2, none⟩ = some (.map (some A.r))
  c3 : w.cell? ⟨p, 3, none⟩ = some A.fv
  c4 : w.cell? ⟨p, 4, none⟩ = some A.tv
  c5 : w.cell? ⟨p, 5, none⟩ = some A.ov
  c6 : w.cell? ⟨p, 6, none⟩ = some A.cv
  c7 : w.cell? ⟨p, 7, none⟩ = some A.bv
  fz : ∀ j, w.frozen? ⟨p, j, none⟩ = false
  keys : MapHas Value.string w A.r (keyList S.keyed 0)
  sorts : Own w 0 74 kSrt O A.sv S.sorts
  funs : Own w 0 71 kFun O A.fv S.funs
  terms : Own w 0 63 kTerm O A.tv S.terms
  ofs : Own w 0 3 kInt O A.ov S.ofs
  consts : Own w 0 4 Kd.bool O A.cv S.consts
  bks : Own w 0 28 kAny O A.bv (A.bs.map (·.1))
  ins : ∀ b ∈ A.bs, Own w 0 3 kInt O b.1 b.2 ∧ (∀ x ∈ b.2, 0 ≤ x ∧ x < S.terms.length) ∧ b.2.length ≤ S.terms.length
  nb : 16 ≤ A.bs.length ∧ A.bs.length ≤ 1000

section
variable {w w' : World} {O O1 O' : Nat → Prop} {p : Nat} {A : AV} {S : St}
theorem Arena.po (h : Arena w O p A S) : O p := h.mo p (List.mem_cons_self ..)
theorem Arena.pl (h : Arena w O p A S) : p < w.heap.size := cell_lt h.c0
theorem AV.mo_p (A : AV) (p : Nat) : A.mo p p := List.mem_cons_self ..
theorem AV.mo_r (A : AV) (p : Nat) : A.mo p A.r := List.mem_cons_of_mem _ (List.mem_cons_self ..)
theorem AV.at2 (A : AV) (p : Nat) : (A.own p)[2]? = some A.sv.ownBlock := rfl
theorem AV.at3 (A : AV) (p : Nat) : (A.own p)[3]? = some A.fv.ownBlock := rfl
theorem AV.at4 (A : AV) (p : Nat) : (A.own p)[4]? = some A.tv.ownBlock := rfl
theorem AV.at5 (A : AV) (p : Nat) : (A.own p)[5]? = some A.ov.ownBlock := rfl
theorem AV.at6 (A : AV) (p : Nat) : (A.own p)[6]? = some A.cv.ownBlock := rfl
theorem AV.at7 (A : AV) (p : Nat) : (A.own p)[7]? = some A.bv.ownBlock := rfl
theorem AV.at8 (A : AV) (p : Nat) {i : Nat} {b : Value × List Int} (h : A.bs[i]? = some b) : (A.own p)[8 + i]? = some b.1.ownBlock := by
  rw [show 8 + i = i + 1 + 1 + 1 + 1 + 1 + 1 + 1 + 1 by omega]
  simp [AV.own, h]
theorem AV.mem (A : AV) (p : Nat) {i b : Nat} (h : (A.own p)[i]? = some (some b)) : A.mo p b := List.mem_of_getElem? h

/-- What isn't the arena's turns; O turns. -/
theorem Arena.move (h : Arena w O p A S) (he : Ext O1 w w') (h1 : ∀ b, b < w.heap.size → O1 b → O b ∧ ¬ A.mo p b) (h2 : ∀ b, b < w.heap.size → O' b → O b) (h3 : ∀ b, A.mo p b → O' b) (h4 : OldO O' w') : Arena w' O' p A S := by
  have np : ¬ O1 p := fun hp => (h1 p h.pl hp).2 (A.mo_p p)
  have nr : ¬ O1 A.r := fun hp => (h1 A.r h.keys.lt hp).2 (A.mo_r p)
  have hv : ∀ {i : Nat} {v : Value}, (A.own p)[i]? = some v.ownBlock → ∀ b, b < w.heap.size → O1 b → O b ∧ v.ownBlock ≠ some b := fun hi b hb hO => ⟨(h1 b hb hO).1, fun e => (h1 b hb hO).2 (A.mem p (e ▸ hi))⟩
  refine ⟨h4, h3, h.sep, he.cell h.c0 np, he.cell h.c1 np, he.cell h.c2 np, he.cell h.c3 np, he.cell h.c4 np, he.cell h.c5 np, he.cell h.c6 np, he.cell h.c7 np, fun j => (he.frozen h.pl np).trans (h.fz j), h.keys.ext he nr,
    h.sorts.move he (hv (A.at2 p)) h2, h.funs.move he (hv (A.at3 p)) h2, h.terms.move he (hv (A.at4 p)) h2, h.ofs.move he (hv (A.at5 p)) h2, h.consts.move he (hv (A.at6 p)) h2, h.bks.move he (hv (A.at7 p)) h2, fun b hb => ?_, h.nb⟩
  obtain ⟨i, hi⟩ := List.getElem?_of_mem hb
  have h0 := h.ins b hb
  exact ⟨h0.1.move he (hv (A.at8 p hi)) h2, h0.2⟩
theorem Arena.ext (h : Arena w O p A S) (he : Ext NoB w w') : Arena w' O p A S := h.move he (fun _ _ h => h.elim) (fun _ _ h => h) h.mo (h.old.ext he)
/-- One block more of O, that is new. -/
theorem Arena.plus (h : Arena w O p A S) (he : Ext NoB w w') {g : Nat} (hg : w.heap.size ≤ g) (hg' : g < w'.heap.size) : Arena w' (Plus O g) p A S :=
  h.move he (fun _ _ h => h.elim) (fun b hb h => h.elim id fun e => by omega) (fun b hb => .inl (h.mo b hb)) (old_plus h.old he hg')
end
end Go.Proofs.YtfpmapbimhdafaaGreatDoor

namespace Go.Proofs.YtfpmapbimhdafaaGreatDoor
open Go.RowKit
set_option linter.unusedVariables false
set_option linter.unusedSimpArgs false

abbrev ptr (p : Nat) : Value := .pointer (some ⟨p, 0, none⟩)
theorem Own.at_ {α : Type} {k : Kd α} {W : World} {base g n c : Nat} {e : TypeId} {O : Nat → Prop} {xs : List α} (h : Own W base e k O (.slice (some ⟨g, 0, none⟩) n c) xs) {i : Nat} {x : α} (hx : xs[i]? = some x) :
    ∃ cs, k.rep W (PlusV O (.slice (some ⟨g, 0, none⟩) n c)) x cs ∧ ∀ (j : Nat) (v : Value), cs[j]? = some v → W.cell? ⟨g, i * k.size + j, none⟩ = some v := by
  obtain ⟨css, hrow, hall⟩ := h
  have hs : ∀ c ∈ css, c.length = k.size := fun c hc => by
    obtain ⟨y, _, hy⟩ := hall.mem c hc
    exact k.len hy
  obtain ⟨cs, hcs, hr⟩ := hall.at_ i x hx
  refine ⟨cs, hr, fun j v hj => ?_⟩
  have c0 := hrow.cells (g := g) rfl _ _ (flat_at hs i _ j _ hcs hj)
  rwa [add_at, Nat.zero_add] at c0
theorem Own.max {α : Type} {k : Kd α} {W : World} {base : Nat} {e : TypeId} {O : Nat → Prop} {v : Value} {xs : List α} (h : Own W base e k O v xs) : xs.length ≤ 9223372036854775807 := by
  obtain ⟨A, c, _, h1, h2⟩ := h.shape
  unfold maxLen at h2
  omega
theorem Own.term_at {W : World} {base g n c : Nat} {e : TypeId} {O : Nat → Prop} {xs : List Term} (h : Own W base e kTerm O (.slice (some ⟨g, 0, none⟩) n c) xs) {i : Nat} {x : Term} (hx : xs[i]? = some x) :
    ∃ A d, (W.cell? ⟨g, i * 4, none⟩ = some (.int .i64 x.op) ∧ W.cell? ⟨g, i * 4 + 1, none⟩ = some (.int .i64 x.fn) ∧ W.cell? ⟨g, i * 4 + 2, none⟩ = some (.slice A x.kids.length d) ∧ W.cell? ⟨g, i * 4 + 3, none⟩ = some (.string x.num)) ∧
      kInts.one W O x.kids (.slice A x.kids.length d) ∧ (Lit.int .i64 x.op).wf = true ∧ (Lit.int .i64 x.fn).wf = true ∧ x.num.size ≤ maxLen := by
  obtain ⟨cs, hr, hc⟩ := h.at_ hx
  obtain ⟨v, rfl, w1, w2, hk, w3⟩ := kTerm_iff.1 hr
  have hk' := hk
  obtain ⟨A, d, rfl, _⟩ := Kd.one_slice hk'
  exact ⟨A, d, ⟨hc 0 _ rfl, hc 1 _ rfl, hc 2 _ rfl, hc 3 _ rfl⟩, kInts.oneKeep hk (Ext.refl _ _) (fun _ _ h => .inl h), w1, w2, w3⟩
theorem Own.srt_at {W : World} {base g n c : Nat} {e : TypeId} {O : Nat → Prop} {xs : List Srt} (h : Own W base e kSrt O (.slice (some ⟨g, 0, none⟩) n c) xs) {i : Nat} {x : Srt} (hx : xs[i]? = some x) :
    ∃ A d, (W.cell? ⟨g, i * 2, none⟩ = some (.string x.name) ∧ W.cell? ⟨g, i * 2 + 1, none⟩ = some (.slice A x.args.length d)) ∧ kInts.one W O x.args (.slice A x.args.length d) ∧ x.name.size ≤ maxLen := by
  obtain ⟨cs, hr, hc⟩ := h.at_ hx
  obtain ⟨v, rfl, w1, hk⟩ := kSrt_iff.1 hr
  have hk' := hk
  obtain ⟨A, d, rfl, _⟩ := Kd.one_slice hk'
  exact ⟨A, d, ⟨hc 0 _ rfl, hc 1 _ rfl⟩, kInts.oneKeep hk (Ext.refl _ _) (fun _ _ h => .inl h), w1⟩
theorem Own.fun_at {W : World} {base g n c : Nat} {e : TypeId} {O : Nat → Prop} {xs : List Fun} (h : Own W base e kFun O (.slice (some ⟨g, 0, none⟩) n c) xs) {i : Nat} {x : Fun} (hx : xs[i]? = some x) :
    ∃ A d, (W.cell? ⟨g, i * 3, none⟩ = some (.string x.name) ∧ W.cell? ⟨g, i * 3 + 1, none⟩ = some (.slice A x.args.length d) ∧ W.cell? ⟨g, i * 3 + 2, none⟩ = some (.int .i64 x.result)) ∧ kInts.one W O x.args (.slice A x.args.length d) ∧ x.name.size ≤ maxLen ∧ (Lit.int .i64 x.result).wf = true := by
  obtain ⟨cs, hr, hc⟩ := h.at_ hx
  obtain ⟨v, rfl, w1, hk, w2⟩ := kFun_iff.1 hr
  have hk' := hk
  obtain ⟨A, d, rfl, _⟩ := Kd.one_slice hk'
  exact ⟨A, d, ⟨hc 0 _ rfl, hc 1 _ rfl, hc 2 _ rfl⟩, kInts.oneKeep hk (Ext.refl _ _) (fun _ _ h => .inl h), w1, w2⟩
theorem Own.ints {ik : IntKind} {W : World} {base n c : Nat} {e : TypeId} {O : Nat → Prop} {xs : List Int} {A : Option Addr} (h : Own W base e (Kd.int ik) O (.slice A n c) xs) {k : Nat} (hk : k < xs.length) :
    ∃ g, A = some ⟨g, 0, none⟩ ∧ W.cell? ⟨g, k, none⟩ = some (.int ik (rdI xs k)) ∧ (Lit.int ik (rdI xs k)).wf = true := by
  obtain ⟨g, d, hv⟩ := h.form (by omega)
  injection hv with h1 h2 h3
  subst h1
  exact ⟨g, rfl, h.int_at hk⟩

section
variable {w : World} {O : Nat → Prop} {p : Nat} {A : AV} {S : St}
set_option maxRecDepth 100000 in
set_option maxHeartbeats 1000000 in
theorem c_ArLen (h : Arena w O p A S) : Calls Tryz.prog 31 #[ptr p] w fun e w' => e = .returned (.int .i64 (S.terms.length : Int)) ∧ Ext NoB w w' := by
  obtain ⟨T, c, hT, _, _⟩ := h.terms.shape
  have c4 := h.c4
  have hm := h.terms.max
  rw [hT] at c4
  clear hT h
  unfold ptr
  go_enter Tryz.func31, Tryz.ntmps31
  go_wp2_with fail
  go_ret
  exact ⟨rfl, Ext.refl _ _⟩
set_option maxRecDepth 100000 in
set_option maxHeartbeats 1000000 in
theorem c_has (h : Arena w O p A S) (i : Int) (hi : 0 ≤ i) : Calls Tryz.prog 41 #[ptr p, .int .i64 i] w fun e w' => e = .returned (.bool (decide (i < S.terms.length))) ∧ Ext NoB w w' := by
  obtain ⟨T, c, hT, _, _⟩ := h.terms.shape
  have c4 := h.c4
  have hm := h.terms.max
  rw [hT] at c4
  clear hT h
  unfold ptr
  go_enter Tryz.func41, Tryz.ntmps41
  go_wp2_with fail
  go_ret
  exact ⟨rfl, Ext.refl _ _⟩
set_option maxRecDepth 100000 in
set_option maxHeartbeats 1000000 in
theorem c_ArOf (h : Arena w O p A S) (hlo : S.ofs.length = S.terms.length) (i : Nat) (hi : i < S.terms.length) : Calls Tryz.prog 21 #[ptr p, .int .i64 (i : Int)] w fun e w' => e = .returned (.int .i64 (rdI S.ofs i)) ∧ Ext NoB w w' := by
  obtain ⟨T, c, hT, _, _⟩ := h.ofs.shape
  have c5 := h.c5
  have hm := h.terms.max
  have hofs := h.ofs
  rw [hT] at c5 hofs
  obtain ⟨g, rfl, x1, _⟩ := hofs.ints (k := i) (by omega)
  have HH := Lib.hid h
  clear hT h hofs
  unfold ptr
  go_enter Tryz.func21, Tryz.ntmps21
  go_wp2_with fail
  refine (c_has HH.out (i : Int) (by omega)).mono ?_
  rintro e w1 ⟨rfl, he⟩
  have hb : decide ((i : Int) < S.terms.length) = true := decide_eq_true (by omega)
  replace c5 := he.cell c5 (fun h => h)
  replace x1 := he.cell x1 (fun h => h)
  have HE := Lib.hid he
  clear he
  go_wp2_with fail
  go_ret
  exact ⟨rfl, HE.out⟩
end
end Go.Proofs.YtfpmapbimhdafaaGreatDoor

namespace Go.Proofs.YtfpmapbimhdafaaGreatDoor
open Go.RowKit
set_option linter.unusedVariables false
set_option linter.unusedSimpArgs false

theorem old_plusV {O : Nat → Prop} {w W : World} {v : Value} (hO : OldO O w) (he : Ext NoB w W) (hv : ∀ b, v.ownBlock = some b → b < W.heap.size) : OldO (PlusV O v) W := by
  rintro b (hb | hb)
  · exact Nat.lt_of_lt_of_le (hO b hb) he.size
  · exact hv b hb
section
variable {w : World} {O : Nat → Prop} {p : Nat} {A : AV} {S : St}
attribute [local go_sem] setCell_same
set_option maxRecDepth 100000 in
set_option maxHeartbeats 1000000 in
theorem c_At (h : Arena w O p A S) (i : Nat) (t : Term) (ht : S.terms[i]? = some t) (hl : t.kids.length ≤ 1000000000) : Calls Tryz.prog 32 #[ptr p, .int .i64 (i : Int)] w fun e w' => ∃ v, e = .returned (.tuple #[v, .bool true]) ∧ kTerm.agg w' O t v ∧ Ext NoB w w' := by
  have hi : i < S.terms.length := (List.getElem?_eq_some_iff.1 ht).1
  have hmx := h.terms.max
  obtain ⟨T, c, hT⟩ := h.terms.form (by omega)
  have c4 := h.c4
  have hterms := h.terms
  rw [hT] at c4 hterms
  obtain ⟨B, d, ⟨x0, x1, x2, x3⟩, hkids, wf0, wf1, wf3⟩ := hterms.term_at ht
  have HK := Lib.hid hkids
  have HH := Lib.hid h
  have HO := Lib.hid h.old
  clear hT h hterms hkids
  unfold ptr
  go_enter Tryz.func32, Tryz.ntmps32
  go_wp2_with fail
  refine (c_has (HH.out.ext ((Ext.refl _ _).alloc _)) (i : Int) (by omega)).mono ?_
  rintro e w1 ⟨rfl, he⟩
  have hb : decide ((i : Int) < S.terms.length) = true := decide_eq_true (by omega)
  have hE := ((Ext.refl NoB w).alloc _).trans he
  replace c4 := hE.cell c4 (fun h => h)
  replace x0 := hE.cell x0 (fun h => h)
  replace x1 := hE.cell x1 (fun h => h)
  replace x2 := hE.cell x2 (fun h => h)
  replace x3 := hE.cell x3 (fun h => h)
  have r0 : w1.cell? ⟨w.heap.size, 0, none⟩ = some (.int .i64 0) := he.cell (by go_simp) (fun h => h)
  have r1 : w1.cell? ⟨w.heap.size, 1, none⟩ = some (.int .i64 0) := he.cell (by go_simp) (fun h => h)
  have r2 : w1.cell? ⟨w.heap.size, 2, none⟩ = some (.slice none 0 0) := he.cell (by go_simp) (fun h => h)
  have r3 : w1.cell? ⟨w.heap.size, 3, none⟩ = some (.string ⟨#[]⟩) := he.cell (by go_simp) (fun h => h)
  have g0 : w1.frozen? ⟨w.heap.size, 0, none⟩ = false := (he.frozen (by simp) (fun h => h)).trans (by go_simp)
  have g1 : w1.frozen? ⟨w.heap.size, 1, none⟩ = false := (he.frozen (by simp) (fun h => h)).trans (by go_simp)
  have g2 : w1.frozen? ⟨w.heap.size, 2, none⟩ = false := (he.frozen (by simp) (fun h => h)).trans (by go_simp)
  have g3 : w1.frozen? ⟨w.heap.size, 3, none⟩ = false := (he.frozen (by simp) (fun h => h)).trans (by go_simp)
  have hlt := cell_lt r0
  have HE := Lib.hid hE
  clear he hE
  go_wp2_with fail
  refine (c_copied _ t.kids _ (Plus (Plus O w.heap.size) w1.heap.size) (kInts.oneKeep HK.out (HE.out.alloc _).no (fun b hb h => h.elim (fun h => h.elim id (fun e => by omega)) (fun e => by have := HE.out.size; omega))) hl).mono ?_
  rintro e w2 ⟨v2, rfl, hown, he⟩
  obtain ⟨A2, c2, rfl, hl2, hm2⟩ := hown.shape
  have HV := Lib.hid (hown.slice (pos := Nat.one_pos) (by
    rintro b ((hb | rfl) | rfl)
    · exact Nat.lt_of_lt_of_le (HO.out b hb) (by have := HE.out.size; simp; omega)
    · simp; omega
    · simp))
  have b0 : w2.cell? ⟨w1.heap.size, 0, none⟩ = some (.int .i64 t.op) := he.cell (by go_simp) (fun h => h)
  have b1 : w2.cell? ⟨w1.heap.size, 1, none⟩ = some (.int .i64 t.fn) := he.cell (by go_simp) (fun h => h)
  have b2 : w2.cell? ⟨w1.heap.size, 2, none⟩ = some (.slice B t.kids.length d) := he.cell (by go_simp) (fun h => h)
  have b3 : w2.cell? ⟨w1.heap.size, 3, none⟩ = some (.string t.num) := he.cell (by go_simp) (fun h => h)
  have f2 : w2.frozen? ⟨w1.heap.size, 2, none⟩ = false := (he.frozen (by simp) (fun h => h)).trans (by go_simp)
  have hE2 := ((Ext.refl NoB w1).alloc _).trans he
  replace r0 := hE2.cell r0 (fun h => h)
  replace r1 := hE2.cell r1 (fun h => h)
  replace r2 := hE2.cell r2 (fun h => h)
  replace r3 := hE2.cell r3 (fun h => h)
  replace g0 := (hE2.frozen hlt (fun h => h)).trans g0
  replace g1 := (hE2.frozen hlt (fun h => h)).trans g1
  replace g2 := (hE2.frozen hlt (fun h => h)).trans g2
  replace g3 := (hE2.frozen hlt (fun h => h)).trans g3
  have hlt2 := cell_lt r0
  have hlt3 := cell_lt b0
  have hne : w1.heap.size ≠ w.heap.size := by omega
  have HE2 := Lib.hid (HE.out.trans hE2)
  clear he hE2 hown hl2 hm2
  go_wp2_with fail
  refine bodyPost_ret (v := .tuple #[.agg #[.int .i64 t.op, .int .i64 t.fn, .slice A2 t.kids.length c2, .string t.num], .bool true]) (by simp [results, Tryz.results32, go_sem, r0, r1, r2, r3, g0, g1, g2, g3, hne, hne.symm]) rfl ⟨_, rfl, ⟨_, rfl, kTerm_iff.2 ⟨_, rfl, wf0, wf1, ?_, wf3⟩⟩, ?_⟩
  · exact kInts.oneKeep HV.out (((((((Ext.refl _ w2).setO (p := ⟨w1.heap.size, 2, none⟩) (Plus.here _ _) _).setO (p := ⟨w.heap.size, 0, none⟩) (.inl (Plus.here _ _)) _).setO (p := ⟨w.heap.size, 1, none⟩) (.inl (Plus.here _ _)) _).setO (p := ⟨w.heap.size, 2, none⟩) (.inl (Plus.here _ _)) _).setO (p := ⟨w.heap.size, 3, none⟩) (.inl (Plus.here _ _)) _)) (fun b _ h => .inl (.inl h))
  · exact ((((HE2.out.setNew (show w.heap.size ≤ w1.heap.size by omega) _).setNew (Nat.le_refl _) _).setNew (Nat.le_refl _) _).setNew (Nat.le_refl _) _).setNew (Nat.le_refl _) _

set_option maxRecDepth 100000 in
set_option maxHeartbeats 1000000 in
theorem c_Sorts (h : Arena w O p A S) (hs : ∀ s ∈ S.sorts, s.args.length ≤ 1000000000) (hn : S.sorts.length ≤ 1000000000) : Calls Tryz.prog 35 #[ptr p] w fun e w' => ∃ v, e = .returned v ∧ kSrts.one w' O S.sorts v ∧ Ext NoB w w' := by
  obtain ⟨T, c, hT, _, _⟩ := h.sorts.shape
  have c1 := h.c1
  have hsorts := h.sorts
  rw [hT] at c1 hsorts
  have HS := Lib.hid hsorts
  have HO := Lib.hid h.old
  have HL := Lib.hid hs
  clear hT h hsorts hs
  unfold ptr
  go_enter Tryz.func35, Tryz.ntmps35
  go_wp2_with fail
  go_loopw [3, 11] (fun v i wr => ∃ (k : Nat), k ≤ S.sorts.length ∧ i = .int .i64 k ∧ Hid (Own wr w.heap.size 74 kSrt O v (S.sorts.take k)) ∧ Hid (Ext NoB w wr)) (fun _ i _ => S.sorts.length - (intOf i).toNat)
  case atStart => exact ⟨0, Nat.zero_le _, rfl, Lib.hid (Own.nil _ _ _ _), Lib.hid (Ext.refl _ _)⟩
  case round =>
    obtain ⟨k, hk, rfl, HOW, HX⟩ := hrel
    clear c1
    by_cases hlt : k < S.sorts.length
    · obtain ⟨s, hsk⟩ := at_some hlt
      obtain ⟨g, d, hg⟩ := HS.out.form (by omega)
      injection hg with hg1 hg2 hg3
      subst hg1 hg3
      clear hg2
      obtain ⟨B, d2, ⟨x0, x1⟩, hargs, wn⟩ := HS.out.srt_at hsk
      replace x0 := HX.out.cell x0 (fun h => h)
      replace x1 := HX.out.cell x1 (fun h => h)
      have lg := cell_lt x0
      have HK := Lib.hid hargs
      have HSK := Lib.hid (show S.sorts.take k ++ [s] = S.sorts.take (k + 1) by rw [List.take_add_one, hsk]; rfl)
      have hla := HL.out s (List.mem_of_getElem? hsk)
      have hlen : (S.sorts.take k).length = k := by rw [List.length_take]; omega
      clear hargs hsk
      go_wp2_with fail
      refine (c_copied _ s.args _ (Plus (PlusV O _) wr.heap.size) (kInts.onePlus (kInts.oneV HK.out HX.out.no (fun g hg => (HOW.out.base hg).1)) ((Ext.refl _ _).alloc _) (Nat.le_refl _)) hla).mono ?_
      rintro e w2 ⟨v2, rfl, hown, he⟩
      obtain ⟨A2, c2, rfl, hl2, hm2⟩ := hown.shape
      have HV := Lib.hid (hown.slice (pos := Nat.one_pos) (by
        rintro b ((hb | hb) | rfl)
        · exact Nat.lt_of_lt_of_le (HO.out b hb) (by have := HX.out.size; simp; omega)
        · have := (HOW.out.base hb).2
          simp; omega
        · simp))
      have b0 : w2.cell? ⟨wr.heap.size, 0, none⟩ = some (.string s.name) := he.cell (by go_simp) (fun h => h)
      have b1 : w2.cell? ⟨wr.heap.size, 1, none⟩ = some (.slice B s.args.length d2) := he.cell (by go_simp) (fun h => h)

      have f1 : w2.frozen? ⟨wr.heap.size, 1, none⟩ = false := (he.frozen (by simp) (fun h => h)).trans (by go_simp)
      have hlt2 := cell_lt b0
      have hE2 := ((Ext.refl NoB wr).alloc _).trans he
      have hA := (hE2.no (O := fun b => b = wr.heap.size)).setO (p := ⟨wr.heap.size, 1, none⟩) rfl (.slice A2 s.args.length c2)
      have HOW2 := Lib.hid (HOW.out.move hA (fun b hb h => absurd h (by omega)) (fun _ _ h => h))
      have HX2 := Lib.hid ((HX.out.trans hE2).setNew (p := ⟨wr.heap.size, 1, none⟩) HX.out.size (.slice A2 s.args.length c2))
      have HA2 := Lib.hid (kInts.oneKeep HV.out ((Ext.refl (Plus (PlusV O _) wr.heap.size) w2).setO (p := ⟨wr.heap.size, 1, none⟩) (Plus.here _ _) (.slice A2 s.args.length c2)) (fun b _ h => .inl h))
      clear he hE2 hown hl2 hm2 hA HV
      go_wp2_with (at_builtin; refine wpl_append1 kSrt (by decide) rfl (.tmp 19) (.tmp 21) 22 rfl w.heap.size 74 _ 40 Tryz.underlying22 info_Sort rfl O _ rfl _ HOW2.out (by rw [show (World.setCell w2 ⟨wr.heap.size, 1, none⟩ (.slice A2 s.args.length c2)).heap.size = w2.heap.size by simp [World.setCell]]; rfl) s [_, _] (kSrt_iff.2 ⟨_, rfl, wn, HA2.out⟩) (HO.out.ext HX2.out) (by omega) (by rw [hlen]; omega) HX2.out.size ?_; intro v3 w3 hO3 hE3 hat3)
      have HX3 := Lib.hid (HX2.out.then hE3 (fun i hi h => by have := (HOW2.out.base h).1; omega))
      rw [HSK.out] at hO3
      clear hE3 hat3
      exact ⟨⟨k + 1, by omega, by go_num, Lib.hid hO3, HX3⟩, by simp [intOf]; omega⟩
    · have hkn : k = S.sorts.length := by omega
      subst hkn
      go_wp2_with fail
      go_ret
      have h1 := HOW.out.slice (pos := by decide) (fun b hb => HO.out b hb)
      rw [List.take_length] at h1
      exact ⟨_, rfl, h1, HX.out⟩
set_option maxRecDepth 100000 in
set_option maxHeartbeats 1000000 in
theorem c_Funs (h : Arena w O p A S) (hs : ∀ s ∈ S.funs, s.args.length ≤ 1000000000) (hn : S.funs.length ≤ 1000000000) : Calls Tryz.prog 36 #[ptr p] w fun e w' => ∃ v, e = .returned v ∧ kFuns.one w' O S.funs v ∧ Ext NoB w w' := by
  obtain ⟨T, c, hT, _, _⟩ := h.funs.shape
  have c1 := h.c3
  have hsorts := h.funs
  rw [hT] at c1 hsorts
  have HS := Lib.hid hsorts
  have HO := Lib.hid h.old
  have HL := Lib.hid hs
  clear hT h hsorts hs
  unfold ptr
  go_enter Tryz.func36, Tryz.ntmps36
  go_wp2_with fail
  go_loopw [3, 11] (fun v i wr => ∃ (k : Nat), k ≤ S.funs.length ∧ i = .int .i64 k ∧ Hid (Own wr w.heap.size 71 kFun O v (S.funs.take k)) ∧ Hid (Ext NoB w wr)) (fun _ i _ => S.funs.length - (intOf i).toNat)
  case atStart => exact ⟨0, Nat.zero_le _, rfl, Lib.hid (Own.nil _ _ _ _), Lib.hid (Ext.refl _ _)⟩
  case round =>
    obtain ⟨k, hk, rfl, HOW, HX⟩ := hrel
    clear c1
    by_cases hlt : k < S.funs.length
    · obtain ⟨s, hsk⟩ := at_some hlt
      obtain ⟨g, d, hg⟩ := HS.out.form (by omega)
      injection hg with hg1 hg2 hg3
      subst hg1 hg3
      clear hg2
      obtain ⟨B, d2, ⟨x0, x1, x2⟩, hargs, wn, wres⟩ := HS.out.fun_at hsk
      replace x0 := HX.out.cell x0 (fun h => h)
      replace x1 := HX.out.cell x1 (fun h => h)
      replace x2 := HX.out.cell x2 (fun h => h)
      have lg := cell_lt x0
      have HK := Lib.hid hargs
      have HSK := Lib.hid (show S.funs.take k ++ [s] = S.funs.take (k + 1) by rw [List.take_add_one, hsk]; rfl)
      have hla := HL.out s (List.mem_of_getElem? hsk)
      have hlen : (S.funs.take k).length = k := by rw [List.length_take]; omega
      clear hargs hsk
      go_wp2_with fail
      refine (c_copied _ s.args _ (Plus (PlusV O _) wr.heap.size) (kInts.onePlus (kInts.oneV HK.out HX.out.no (fun g hg => (HOW.out.base hg).1)) ((Ext.refl _ _).alloc _) (Nat.le_refl _)) hla).mono ?_
      rintro e w2 ⟨v2, rfl, hown, he⟩
      obtain ⟨A2, c2, rfl, hl2, hm2⟩ := hown.shape
      have HV := Lib.hid (hown.slice (pos := Nat.one_pos) (by
        rintro b ((hb | hb) | rfl)
        · exact Nat.lt_of_lt_of_le (HO.out b hb) (by have := HX.out.size; simp; omega)
        · have := (HOW.out.base hb).2
          simp; omega
        · simp))
      have b0 : w2.cell? ⟨wr.heap.size, 0, none⟩ = some (.string s.name) := he.cell (by go_simp) (fun h => h)
      have b1 : w2.cell? ⟨wr.heap.size, 1, none⟩ = some (.slice B s.args.length d2) := he.cell (by go_simp) (fun h => h)
      have b2 : w2.cell? ⟨wr.heap.size, 2, none⟩ = some (.int .i64 s.result) := he.cell (by go_simp) (fun h => h)
      have f1 : w2.frozen? ⟨wr.heap.size, 1, none⟩ = false := (he.frozen (by simp) (fun h => h)).trans (by go_simp)
      have hlt2 := cell_lt b0
      have hE2 := ((Ext.refl NoB wr).alloc _).trans he
      have hA := (hE2.no (O := fun b => b = wr.heap.size)).setO (p := ⟨wr.heap.size, 1, none⟩) rfl (.slice A2 s.args.length c2)
      have HOW2 := Lib.hid (HOW.out.move hA (fun b hb h => absurd h (by omega)) (fun _ _ h => h))
      have HX2 := Lib.hid ((HX.out.trans hE2).setNew (p := ⟨wr.heap.size, 1, none⟩) HX.out.size (.slice A2 s.args.length c2))
      have HA2 := Lib.hid (kInts.oneKeep HV.out ((Ext.refl (Plus (PlusV O _) wr.heap.size) w2).setO (p := ⟨wr.heap.size, 1, none⟩) (Plus.here _ _) (.slice A2 s.args.length c2)) (fun b _ h => .inl h))
      clear he hE2 hown hl2 hm2 hA HV
      go_wp2_with (at_builtin; refine wpl_append1 kFun (by decide) rfl (.tmp 19) (.tmp 21) 23 rfl w.heap.size 71 _ 48 Tryz.underlying23 info_Fun rfl O _ rfl _ HOW2.out (by rw [show (World.setCell w2 ⟨wr.heap.size, 1, none⟩ (.slice A2 s.args.length c2)).heap.size = w2.heap.size by simp [World.setCell]]; rfl) s [_, _, _] (kFun_iff.2 ⟨_, rfl, wn, HA2.out, wres⟩) (HO.out.ext HX2.out) (by omega) (by rw [hlen]; omega) HX2.out.size ?_; intro v3 w3 hO3 hE3 hat3)
      have HX3 := Lib.hid (HX2.out.then hE3 (fun i hi h => by have := (HOW2.out.base h).1; omega))
      rw [HSK.out] at hO3
      clear hE3 hat3
      exact ⟨⟨k + 1, by omega, by go_num, Lib.hid hO3, HX3⟩, by simp [intOf]; omega⟩
    · have hkn : k = S.funs.length := by omega
      subst hkn
      go_wp2_with fail
      go_ret
      have h1 := HOW.out.slice (pos := by decide) (fun b hb => HO.out b hb)
      rw [List.take_length] at h1
      exact ⟨_, rfl, h1, HX.out⟩
end
end Go.Proofs.YtfpmapbimhdafaaGreatDoor

namespace Go.Proofs.YtfpmapbimhdafaaGreatDoor
open Go.RowKit
set_option linter.unusedVariables false
set_option linter.unusedSimpArgs false

def kidN (t : Term) (i : Nat) : Nat := (rdI t.kids i).toNat
def funAt (funs : List Fun) (i : Int) : Fun := funs.getD i.toNat ⟨⟨#[]⟩, [], 0⟩
theorem funAt_eq {funs : List Fun} {k : Nat} {f : Fun} (h : funs[k]? = some f) : funAt funs (k : Int) = f := by rw [funAt, Int.toNat_natCast, List.getD_eq_getElem?_getD, h]; rfl
def wantedT (funs : List Fun) (ofs : List Int) (t : Term) (i : Nat) : Int :=
  if t.op = 3 then rdI (funAt funs t.fn).args i else if 5 ≤ t.op ∧ t.op ≤ 9 then 0 else if t.op = 10 then (if i = 0 then 0 else rdI ofs (kidN t 1)) else if t.op = 11 ∨ t.op = 12 then rdI ofs (kidN t 0) else 1
def resultT (funs : List Fun) (ofs : List Int) (t : Term) : Int :=
  if t.op = 3 then (funAt funs t.fn).result else if t.op = 10 then rdI ofs (kidN t 1) else if t.op = 4 ∨ t.op = 17 ∨ t.op = 18 ∨ t.op = 19 then 1 else 0
def rdB (xs : List Bool) (k : Nat) : Bool := xs.getD k false
theorem rdB_eq {xs : List Bool} {k : Nat} (h : k < xs.length) : rdB xs k = xs[k] := by simp [rdB, List.getD_eq_getElem?_getD, List.getElem?_eq_getElem h]
def constT (consts : List Bool) (t : Term) : Bool := decide (t.op = 4) || (decide (t.op = 18) && decide (t.kids.length = 1) && rdB consts (kidN t 0))
/-- How many of the first kids are no constants. -/
def freeTo (consts : List Bool) (t : Term) : Nat → Nat
  | 0 => 0
  | k + 1 => freeTo consts t k + (if rdB consts (kidN t k) then 0 else 1)
theorem freeTo_mono (consts : List Bool) (t : Term) : ∀ {a b : Nat}, a ≤ b → freeTo consts t a ≤ freeTo consts t b := by
  intro a b h
  induction h with
  | refl => exact Nat.le_refl _
  | step _ ih => exact Nat.le_trans ih (Nat.le_add_right _ _)
theorem freeTo_le (consts : List Bool) (t : Term) : ∀ k, freeTo consts t k ≤ k
  | 0 => Nat.le_refl _
  | k + 1 => by
    have := freeTo_le consts t k
    rw [freeTo]
    split <;> omega

/-- A right term over functions, and terms before it. -/
structure TermOk (funs : List Fun) (n : Nat) (ofs : List Int) (consts : List Bool) (t : Term) : Prop where
  op : 1 ≤ t.op ∧ t.op ≤ 19
  fn : t.op ≠ 3 → t.fn = 0
  num : t.op = 4 → NumOk t.num ∧ (1 < t.num.size → chI t.num 0 ≠ 48)
  nonum : t.op ≠ 4 → t.num = ⟨#[]⟩
  app : t.op = 3 → 0 ≤ t.fn ∧ t.fn < funs.length ∧ t.kids.length = (funAt funs t.fn).args.length
  kids : ∀ k, k < t.kids.length → 0 ≤ rdI t.kids k ∧ rdI t.kids k < n
  none : t.op = 1 ∨ t.op = 2 ∨ t.op = 4 → t.kids.length = 0
  one : t.op = 5 → t.kids.length = 1
  three : t.op = 10 → t.kids.length = 3
  some : t.op = 18 → 1 ≤ t.kids.length
  two : t.op ≠ 1 → t.op ≠ 2 → t.op ≠ 3 → t.op ≠ 4 → t.op ≠ 5 → t.op ≠ 10 → t.op ≠ 18 → 2 ≤ t.kids.length
  sort : ∀ k, k < t.kids.length → rdI ofs (kidN t k) = wantedT funs ofs t k
  prod : t.op = 19 → freeTo consts t t.kids.length ≤ 1
theorem TermOk.kidN {funs : List Fun} {n : Nat} {ofs : List Int} {consts : List Bool} {t : Term} (h : TermOk funs n ofs consts t) {k : Nat} (hk : k < t.kids.length) : kidN t k < n ∧ rdI t.kids k = (kidN t k : Int) := by
  have := h.kids k hk
  unfold Proofs.YtfpmapbimhdafaaGreatDoor.kidN
  omega

section
variable {w : World} {O : Nat → Prop} {p : Nat} {A : AV} {S : St}
set_option maxRecDepth 100000 in
set_option maxHeartbeats 1000000 in
theorem c_isNumeral (s : ByteArray) (hs : NumOk s) (hz : 1 < s.size → chI s 0 ≠ 48) (w : World) : Calls Tryz.prog 111 #[.string s] w fun e w' => e = .returned (.bool true) ∧ Ext NoB w w' := by
  have h0 := hs.1
  have h1 := hs.2.1
  have HS := Lib.hid hs
  have e0 : ((s.size : Int) == 0) = false := by rw [beq_eq_false_iff_ne]; omega
  have e1 : decide (10000 < (s.size : Int)) = false := by rw [decide_eq_false_iff_not]; omega
  have e2 : (((s[0]'h0).toNat : Int) == 48) = false ∨ s.size = 1 := by
    by_cases h : 1 < s.size
    · have := hz h
      rw [← chI_eq h0] at this
      exact .inl (by rw [beq_eq_false_iff_ne]; exact this)
    · exact .inr (by omega)
  clear hs hz
  rcases e2 with e2 | e2
  all_goals
    go_enter Tryz.func111, Tryz.ntmps111
    go_wp2_with fail
  all_goals
    go_loopw [24] (fun i wr => ∃ (k : Nat), k ≤ s.size ∧ i = .int .i64 k ∧ wr = w) (fun i _ => s.size - (intOf i).toNat)
    case atStart => exact ⟨0, Nat.zero_le _, rfl, rfl⟩
    case round =>
      obtain ⟨k, hk, rfl, rfl⟩ := hrel
      by_cases hlt : k < s.size
      · have hd := HS.out.2.2 k hlt
        rw [← chI_eq hlt] at hd
        obtain ⟨q0, q1⟩ := hd
        have q2 : decide ((((s[k]'hlt).toNat : Nat) : Int) < 48) = false := by rw [decide_eq_false_iff_not]; omega
        have q3 : decide (57 < (((s[k]'hlt).toNat : Nat) : Int)) = false := by rw [decide_eq_false_iff_not]; omega
        go_wp2_with fail
        exact ⟨⟨k + 1, by omega, by go_num, trivial⟩, by simp [intOf]; omega⟩
      · go_wp2_with fail
        go_ret
        exact ⟨rfl, Ext.refl _ _⟩

theorem tm_open {w : World} {O : Nat → Prop} {t : Term} {v : Value} (h : kTerm.agg w O t v) : ∃ A c, v = .agg #[.int .i64 t.op, .int .i64 t.fn, .slice A t.kids.length c, .string t.num] ∧ Hid (kInts.one w O t.kids (.slice A t.kids.length c)) ∧ t.kids.length ≤ 9223372036854775807 ∧
    (t.kids ≠ [] → ∃ b off, A = some ⟨b, off, none⟩ ∧ ¬ O b ∧ kInt.row w O b off t.kids) := by
  obtain ⟨A, c, rfl, h1, _⟩ := term_open h
  have h1' := h1
  obtain ⟨A', c', hv, h2, h3, h4⟩ := Kd.one_slice h1'
  injection hv with e1 e2 e3
  subst e1
  exact ⟨A, c, rfl, h1, by unfold maxLen at h3; omega, h4⟩

set_option maxRecDepth 100000 in
set_option maxHeartbeats 2000000 in
theorem c_wrongHead (h : Arena w O p A S) (t : Term) (vt : Value) (O' : Nat → Prop) (ht : kTerm.agg w O' t vt) (hok : TermOk S.funs S.terms.length S.ofs S.consts t) : Calls Tryz.prog 98 #[ptr p, vt] w fun e w' => e = .returned (.int .i64 0) ∧ Ext NoB w w' := by
  obtain ⟨T, c, hT, _, _⟩ := h.funs.shape
  have c3 := h.c3
  have hm := h.funs.max
  rw [hT] at c3
  obtain ⟨B, d, rfl, HK, _, _⟩ := tm_open ht
  have hE := (Ext.refl NoB w).alloc (Obj.cells #[.int .i64 t.op, .int .i64 t.fn, .slice B t.kids.length d, .string t.num] 63)
  have y3 := hE.cell c3 (fun h => h)
  have hop := hok.op
  have o1 : decide (t.op < 1) = false := by rw [decide_eq_false_iff_not]; omega
  have o2 : decide (19 < t.op) = false := by rw [decide_eq_false_iff_not]; omega
  clear hT h c3 hE
  unfold ptr
  by_cases e3 : t.op = 3
  · have e3' : (t.op == 3) = true := by rw [beq_iff_eq]; exact e3
    have e4' : (t.op == 4) = false := by rw [beq_eq_false_iff_ne]; omega
    obtain ⟨a1, a2, -⟩ := hok.app e3
    have hnum := hok.nonum (by omega)
    have q1 : decide (t.fn < 0) = false := by rw [decide_eq_false_iff_not]; omega
    have q2 : decide ((S.funs.length : Int) ≤ t.fn) = false := by rw [decide_eq_false_iff_not]; omega
    rw [hnum] at y3 ⊢
    clear ht hok hnum
    generalize t.op = op at *
    subst e3
    go_enter Tryz.func98, Tryz.ntmps98
    go_wp2_with fail
    go_quiet (fail)
    go_wp2_with fail
    go_ret
    exact ⟨rfl, ((Ext.refl _ _).alloc _).drewN _⟩
  · have e3' : (t.op == 3) = false := by rw [beq_eq_false_iff_ne]; exact e3
    have hfn := hok.fn e3
    by_cases e4 : t.op = 4
    · obtain ⟨n1, n2⟩ := hok.num e4
      have HN1 := Lib.hid n1
      have HN2 := Lib.hid n2
      clear ht hok n1 n2 y3
      generalize t.op = op at *
      subst e4
      rw [hfn]
      go_enter Tryz.func98, Tryz.ntmps98
      go_wp2_with fail
      refine (c_isNumeral t.num HN1.out HN2.out _).mono ?_
      rintro e w1 ⟨rfl, he⟩
      have HE := Lib.hid (((Ext.refl NoB w).alloc _).trans he)
      have b0 : w1.cell? ⟨w.heap.size, 0, none⟩ = some (.int .i64 4) := he.cell (by go_simp) (fun h => h)
      clear he
      go_wp2_with fail
      go_quiet (fail)
      go_wp2_with fail
      go_ret
      exact ⟨rfl, HE.out.drewN _⟩
    · have e4' : (t.op == 4) = false := by rw [beq_eq_false_iff_ne]; exact e4
      have hnum := hok.nonum e4
      have q0 : (t.num == ⟨#[]⟩) = true := by rw [hnum]; decide
      rw [hnum, hfn]
      clear ht hok y3 hnum q0
      go_enter Tryz.func98, Tryz.ntmps98
      go_wp2_with fail
      go_quiet (fail)
      go_wp2_with fail
      go_ret
      exact ⟨rfl, ((Ext.refl _ _).alloc _).drewN _⟩

set_option maxRecDepth 100000 in
set_option maxHeartbeats 2000000 in
theorem c_wrongKids (h : Arena w O p A S) (t : Term) (vt : Value) (O' : Nat → Prop) (ht : kTerm.agg w O' t vt) (hok : TermOk S.funs S.terms.length S.ofs S.consts t) : Calls Tryz.prog 99 #[ptr p, vt] w fun e w' => e = .returned (.int .i64 0) ∧ Ext NoB w w' := by
  obtain ⟨T, c, hT, _, _⟩ := h.terms.shape
  have c4 := h.c4
  have hm := h.terms.max
  rw [hT] at c4
  obtain ⟨B, d, rfl, HK, hkm, hk⟩ := tm_open ht
  have hE := (Ext.refl NoB w).alloc (Obj.cells #[.int .i64 t.op, .int .i64 t.fn, .slice B t.kids.length d, .string t.num] 63)
  have y4 := hE.cell c4 (fun h => h)
  have HR := Lib.hid hk
  have HT := Lib.hid hok.kids
  have HE := Lib.hid hE
  clear hT h c4 hE ht hok hk
  unfold ptr
  go_enter Tryz.func99, Tryz.ntmps99
  go_wp2_with fail
  go_loopw [10] (fun i wr => ∃ (k : Nat), k ≤ t.kids.length ∧ i = .int .i64 k ∧ wr = w.alloc (Obj.cells #[.int .i64 t.op, .int .i64 t.fn, .slice B t.kids.length d, .string t.num] 63)) (fun i _ => t.kids.length - (intOf i).toNat)
  case atStart => exact ⟨0, Nat.zero_le _, rfl, rfl⟩
  case round =>
    obtain ⟨k, hk, rfl, rfl⟩ := hrel
    by_cases hlt : k < t.kids.length
    · obtain ⟨b, off, rfl, _, x1, _⟩ := ints_at HR.out hlt
      replace x1 := HE.out.cell x1 (fun h => h)
      obtain ⟨q0, q1⟩ := HT.out k hlt
      have q2 : decide (rdI t.kids k < 0) = false := by rw [decide_eq_false_iff_not]; omega
      have q3 : decide ((S.terms.length : Int) ≤ rdI t.kids k) = false := by rw [decide_eq_false_iff_not]; omega
      go_wp2_with fail
      exact ⟨⟨k + 1, by omega, by go_num, trivial⟩, by simp [intOf]; omega⟩
    · go_wp2_with fail
      go_ret
      exact ⟨rfl, (Ext.refl _ _).alloc _⟩

set_option maxRecDepth 100000 in
set_option maxHeartbeats 2000000 in
theorem c_wrongCount (h : Arena w O p A S) (t : Term) (vt : Value) (O' : Nat → Prop) (ht : kTerm.agg w O' t vt) (hok : TermOk S.funs S.terms.length S.ofs S.consts t) : Calls Tryz.prog 100 #[ptr p, vt] w fun e w' => e = .returned (.int .i64 0) ∧ Ext NoB w w' := by
  have c3 := h.c3
  have hm := h.funs.max
  obtain ⟨B, d, rfl, HK, hkm, hk⟩ := tm_open ht
  have hE := (Ext.refl NoB w).alloc (Obj.cells #[.int .i64 t.op, .int .i64 t.fn, .slice B t.kids.length d, .string t.num] 63)
  have hop := hok.op
  unfold ptr
  by_cases e3 : t.op = 3
  · obtain ⟨a1, a2, a3⟩ := hok.app e3
    obtain ⟨k, hk⟩ : ∃ k : Nat, t.fn = (k : Int) := ⟨t.fn.toNat, by omega⟩
    rw [hk] at a1 a2 a3
    have hkl : k < S.funs.length := by omega
    obtain ⟨f, hf⟩ := at_some hkl
    rw [funAt_eq hf] at a3
    obtain ⟨g, c, hT⟩ := h.funs.form (by omega)
    have hfuns := h.funs
    rw [hT] at hfuns c3
    obtain ⟨A1, d1, ⟨x0, x1, x2⟩, _, _, _⟩ := hfuns.fun_at hf
    have y3 := hE.cell c3 (fun h => h)
    replace x1 := hE.cell x1 (fun h => h)
    have hfl : f.args.length ≤ 9223372036854775807 := by omega
    rw [hk, e3, a3] at y3 x1 ⊢
    clear h hfuns c3 hok ht hE hT HK hf x0 x2 a3 hkm hk
    go_enter Tryz.func100, Tryz.ntmps100
    go_wp2_with fail
    go_quiet (fail)
    go_wp2_with fail
    go_ret
    exact ⟨rfl, ((Ext.refl _ _).alloc _).drewN _⟩
  · have k0 := hok.none
    have k1 := hok.one
    have k2 := hok.three
    have k3 := hok.some
    have k4 := hok.two
    have e3' : (t.op == 3) = false := by rw [beq_eq_false_iff_ne]; exact e3
    clear h c3 hok ht hE HK hk
    generalize t.kids.length = n at *
    generalize t.op = op at *
    by_cases e1 : op = 1
    · have := k0 (.inl e1)
      subst e1; subst this
      clear k0 k1 k2 k3 k4
      go_enter Tryz.func100, Tryz.ntmps100
      go_wp2_with fail
      go_ret
      exact ⟨rfl, (Ext.refl _ _).alloc _⟩
    by_cases e2 : op = 2
    · have := k0 (.inr (.inl e2))
      subst e2; subst this
      clear k0 k1 k2 k3 k4
      go_enter Tryz.func100, Tryz.ntmps100
      go_wp2_with fail
      go_ret
      exact ⟨rfl, (Ext.refl _ _).alloc _⟩
    by_cases e4 : op = 4
    · have := k0 (.inr (.inr e4))
      subst e4; subst this
      clear k0 k1 k2 k3 k4
      go_enter Tryz.func100, Tryz.ntmps100
      go_wp2_with fail
      go_ret
      exact ⟨rfl, (Ext.refl _ _).alloc _⟩
    by_cases e5 : op = 5
    · have := k1 e5
      subst e5; subst this
      clear k0 k1 k2 k3 k4
      go_enter Tryz.func100, Tryz.ntmps100
      go_wp2_with fail
      go_ret
      exact ⟨rfl, (Ext.refl _ _).alloc _⟩
    by_cases e10 : op = 10
    · have := k2 e10
      subst e10; subst this
      clear k0 k1 k2 k3 k4
      go_enter Tryz.func100, Tryz.ntmps100
      go_wp2_with fail
      go_ret
      exact ⟨rfl, (Ext.refl _ _).alloc _⟩
    by_cases e18 : op = 18
    · have := k3 e18
      subst e18
      clear k0 k1 k2 k3 k4
      have q1 : decide ((1 : Int) ≤ (n : Int)) = true := by rw [decide_eq_true_iff]; omega
      go_enter Tryz.func100, Tryz.ntmps100
      go_wp2_with fail
      go_ret
      exact ⟨rfl, (Ext.refl _ _).alloc _⟩
    have := k4 e1 e2 e3 e4 e5 e10 e18
    have q1 : decide ((2 : Int) ≤ (n : Int)) = true := by rw [decide_eq_true_iff]; omega
    have f1 : (op == 1) = false := by rw [beq_eq_false_iff_ne]; exact e1
    have f2 : (op == 2) = false := by rw [beq_eq_false_iff_ne]; exact e2
    have f4 : (op == 4) = false := by rw [beq_eq_false_iff_ne]; exact e4
    have f5 : (op == 5) = false := by rw [beq_eq_false_iff_ne]; exact e5
    have f10 : (op == 10) = false := by rw [beq_eq_false_iff_ne]; exact e10
    have f18 : (op == 18) = false := by rw [beq_eq_false_iff_ne]; exact e18
    clear k0 k1 k2 k3 k4
    go_enter Tryz.func100, Tryz.ntmps100
    go_wp2_with fail
    go_ret
    exact ⟨rfl, (Ext.refl _ _).alloc _⟩
end
end Go.Proofs.YtfpmapbimhdafaaGreatDoor

namespace Go.Proofs.YtfpmapbimhdafaaGreatDoor
open Go.RowKit
set_option linter.unusedVariables false
set_option linter.unusedSimpArgs false

section
variable {w : World} {O : Nat → Prop} {p : Nat} {A : AV} {S : St}
set_option maxRecDepth 100000 in
set_option maxHeartbeats 2000000 in
theorem c_wanted (h : Arena w O p A S) (t : Term) (vt : Value) (O' : Nat → Prop) (ht : kTerm.agg w O' t vt) (hok : TermOk S.funs S.terms.length S.ofs S.consts t) (hlo : S.ofs.length = S.terms.length) (i : Nat) (hi : i < t.kids.length) :
    Calls Tryz.prog 112 #[ptr p, vt, .int .i64 (i : Int)] w fun e w' => e = .returned (.int .i64 (wantedT S.funs S.ofs t i)) ∧ Ext NoB w w' := by
  have hm := h.funs.max
  have hmo := h.ofs.max
  obtain ⟨B, d, rfl, HK, hkm, hk⟩ := tm_open ht
  have hE := (Ext.refl NoB w).alloc (Obj.cells #[.int .i64 t.op, .int .i64 t.fn, .slice B t.kids.length d, .string t.num] 63)
  have hop := hok.op
  unfold ptr
  by_cases e3 : t.op = 3
  · obtain ⟨a1, a2, a3⟩ := hok.app e3
    obtain ⟨k, hk⟩ : ∃ k : Nat, t.fn = (k : Int) := ⟨t.fn.toNat, by omega⟩
    rw [hk] at a1 a2 a3
    have hkl : k < S.funs.length := by omega
    obtain ⟨f, hf⟩ := at_some hkl
    have HR : Hid (wantedT S.funs S.ofs t i = rdI f.args i) := Lib.hid (by rw [wantedT, if_pos e3, hk, funAt_eq hf])
    rw [funAt_eq hf] at a3
    obtain ⟨g, c, hT⟩ := h.funs.form (by omega)
    have hfuns := h.funs
    have c3 := h.c3
    rw [hT] at hfuns c3
    obtain ⟨A1, d1, ⟨x0, x1, x2⟩, hargs, _, _⟩ := hfuns.fun_at hf
    obtain ⟨A1', d1', hv, _, hmx, har⟩ := Kd.one_slice hargs
    injection hv with hv1 hv2 hv3
    subst hv1
    obtain ⟨b, off, rfl, _, z1, _⟩ := ints_at har (k := i) (by omega)
    have y3 := hE.cell c3 (fun h => h)
    replace x1 := hE.cell x1 (fun h => h)
    replace z1 := hE.cell z1 (fun h => h)
    have hil : (i : Int) < f.args.length := by omega
    have hi0 : (0 : Int) ≤ i := by omega
    have hfl : f.args.length ≤ 9223372036854775807 := by unfold maxLen at hmx; omega
    rw [HR.out]
    rw [hk, e3, a3] at y3 x1 z1 ⊢
    clear h hfuns c3 hok ht hE hT HK hf x0 x2 a3 hkm hk hi hargs har hmx hv2 hv3
    go_enter Tryz.func112, Tryz.ntmps112
    go_wp2_with fail
    go_quiet (fail)
    go_wp2_with fail
    go_ret
    exact ⟨rfl, ((Ext.refl _ _).alloc _).drewN _⟩
  have e3' : (t.op == 3) = false := by rw [beq_eq_false_iff_ne]; exact e3
  have atk : ∀ j, j < t.kids.length → ∃ g c b off, A.ov = .slice (some ⟨g, 0, none⟩) S.ofs.length c ∧ B = some ⟨b, off, none⟩ ∧ w.cell? ⟨b, off + j, none⟩ = some (.int .i64 (kidN t j : Int)) ∧ w.cell? ⟨g, kidN t j, none⟩ = some (.int .i64 (rdI S.ofs (kidN t j))) ∧ kidN t j < S.ofs.length := by
    intro j hj
    obtain ⟨b, off, rfl, _, x1, _⟩ := ints_at hk hj
    obtain ⟨q1, q2⟩ := hok.kidN hj
    rw [q2] at x1
    obtain ⟨g, c, hT⟩ := h.ofs.form (by omega)
    have hofs := h.ofs
    rw [hT] at hofs
    exact ⟨g, c, b, off, hT, rfl, x1, (hofs.int_at (by omega)).1, by omega⟩
  by_cases e59 : 5 ≤ t.op ∧ t.op ≤ 9
  · have HR : Hid (wantedT S.funs S.ofs t i = 0) := Lib.hid (by rw [wantedT, if_neg e3, if_pos e59])
    rw [HR.out]
    clear h hok ht hE HK hk hkm atk
    generalize t.op = op at *
    rcases (show op = 5 ∨ op = 6 ∨ op = 7 ∨ op = 8 ∨ op = 9 by omega) with rfl | rfl | rfl | rfl | rfl
    all_goals
      go_enter Tryz.func112, Tryz.ntmps112
      go_wp2_with fail
      go_ret
      exact ⟨rfl, (Ext.refl _ _).alloc _⟩
  by_cases e10 : t.op = 10
  · have hl3 := hok.three e10
    by_cases hi0 : i = 0
    · have HR : Hid (wantedT S.funs S.ofs t i = 0) := Lib.hid (by rw [wantedT, if_neg e3, if_neg e59, if_pos e10, if_pos hi0])
      rw [HR.out]
      subst hi0
      clear h hok ht hE HK hk hkm atk
      generalize t.op = op at *
      subst e10
      go_enter Tryz.func112, Tryz.ntmps112
      go_wp2_with fail
      go_ret
      exact ⟨rfl, (Ext.refl _ _).alloc _⟩
    · have HR : Hid (wantedT S.funs S.ofs t i = rdI S.ofs (kidN t 1)) := Lib.hid (by rw [wantedT, if_neg e3, if_neg e59, if_pos e10, if_neg hi0])
      rw [HR.out]
      obtain ⟨g, c, b, off, hT, rfl, x1, x2, hlt⟩ := atk 1 (by omega)
      have c5 := h.c5
      rw [hT] at c5
      replace c5 := hE.cell c5 (fun h => h)
      replace x1 := hE.cell x1 (fun h => h)
      replace x2 := hE.cell x2 (fun h => h)
      have q0 : ((i : Int) == 0) = false := by rw [beq_eq_false_iff_ne]; omega
      have q1 : (0 : Int) ≤ (kidN t 1 : Int) := by omega
      have q2 : (kidN t 1 : Int) < (S.ofs.length : Int) := by omega
      rw [e10, hl3] at c5 x1 x2 ⊢
      clear h hok ht hE HK hk hkm atk e3 e3' e59 hop hT hl3
      generalize kidN t 1 = kk at *
      generalize rdI S.ofs kk = rr at *
      go_enter Tryz.func112, Tryz.ntmps112
      go_wp2_with fail
      go_quiet (fail)
      go_wp2_with fail
      go_ret
      exact ⟨rfl, ((Ext.refl _ _).alloc _).drewN _⟩
  by_cases e11 : t.op = 11 ∨ t.op = 12
  · have HR : Hid (wantedT S.funs S.ofs t i = rdI S.ofs (kidN t 0)) := Lib.hid (by rw [wantedT, if_neg e3, if_neg e59, if_neg e10, if_pos e11])
    rw [HR.out]
    obtain ⟨g, c, b, off, hT, rfl, x1, x2, hlt⟩ := atk 0 (by omega)
    have c5 := h.c5
    rw [hT] at c5
    replace c5 := hE.cell c5 (fun h => h)
    replace x1 := hE.cell x1 (fun h => h)
    replace x2 := hE.cell x2 (fun h => h)
    rw [Nat.add_zero] at x1
    have q1 : (0 : Int) ≤ (kidN t 0 : Int) := by omega
    have q2 : (kidN t 0 : Int) < (S.ofs.length : Int) := by omega
    have q3 : (0 : Int) < (t.kids.length : Int) := by omega
    clear h hok ht hE HK hk atk e3 e3' e59 hop hT
    generalize kidN t 0 = kk at *
    generalize rdI S.ofs kk = rr at *
    generalize t.kids.length = nn at *
    generalize t.op = op at *
    rcases e11 with rfl | rfl
    all_goals
      go_enter Tryz.func112, Tryz.ntmps112
      go_wp2_with fail
      go_quiet (fail)
      go_wp2_with fail
      go_ret
      exact ⟨rfl, ((Ext.refl _ _).alloc _).drewN _⟩
  have HR : Hid (wantedT S.funs S.ofs t i = 1) := Lib.hid (by rw [wantedT, if_neg e3, if_neg e59, if_neg e10, if_neg e11])
  rw [HR.out]
  have f5 : (t.op == 5) = false := by rw [beq_eq_false_iff_ne]; omega
  have f6 : (t.op == 6) = false := by rw [beq_eq_false_iff_ne]; omega
  have f7 : (t.op == 7) = false := by rw [beq_eq_false_iff_ne]; omega
  have f8 : (t.op == 8) = false := by rw [beq_eq_false_iff_ne]; omega
  have f9 : (t.op == 9) = false := by rw [beq_eq_false_iff_ne]; omega
  have f10 : (t.op == 10) = false := by rw [beq_eq_false_iff_ne]; omega
  have f11 : (t.op == 11) = false := by rw [beq_eq_false_iff_ne]; omega
  have f12 : (t.op == 12) = false := by rw [beq_eq_false_iff_ne]; omega
  clear h hok ht hE HK hk atk
  go_enter Tryz.func112, Tryz.ntmps112
  go_wp2_with fail
  go_ret
  exact ⟨rfl, (Ext.refl _ _).alloc _⟩
end
end Go.Proofs.YtfpmapbimhdafaaGreatDoor

namespace Go.Proofs.YtfpmapbimhdafaaGreatDoor
open Go.RowKit
set_option linter.unusedVariables false
set_option linter.unusedSimpArgs false

/-- A box of four cells, and two cells more, that are read. -/
def TBox (w : World) (u0 u1 u2 u3 : Value) (a1 : Addr) (v1 : Value) (a2 : Addr) (v2 : Value) (W : World) : Prop :=
  W.cell? ⟨w.heap.size, 0, none⟩ = some u0 ∧ W.cell? ⟨w.heap.size, 1, none⟩ = some u1 ∧ W.cell? ⟨w.heap.size, 2, none⟩ = some u2 ∧ W.cell? ⟨w.heap.size, 3, none⟩ = some u3 ∧ W.cell? a1 = some v1 ∧ W.cell? a2 = some v2 ∧ Hid (Ext NoB w W)
theorem TBox.ext {w W W' : World} {u0 u1 u2 u3 : Value} {a1 : Addr} {v1 : Value} {a2 : Addr} {v2 : Value} (h : TBox w u0 u1 u2 u3 a1 v1 a2 v2 W) (he : Ext NoB W W') : TBox w u0 u1 u2 u3 a1 v1 a2 v2 W' := by
  obtain ⟨h0, h1, h2, h3, h4, h5, hE⟩ := h
  exact ⟨he.cell h0 (fun h => h), he.cell h1 (fun h => h), he.cell h2 (fun h => h), he.cell h3 (fun h => h), he.cell h4 (fun h => h), he.cell h5 (fun h => h), hE.out.trans he⟩
/-- A box of four cells. -/
def Bx4 (w : World) (u0 u1 u2 u3 : Value) (W : World) : Prop :=
  W.cell? ⟨w.heap.size, 0, none⟩ = some u0 ∧ W.cell? ⟨w.heap.size, 1, none⟩ = some u1 ∧ W.cell? ⟨w.heap.size, 2, none⟩ = some u2 ∧ W.cell? ⟨w.heap.size, 3, none⟩ = some u3 ∧ Hid (Ext NoB w W)
theorem Bx4.ext {w W W' : World} {u0 u1 u2 u3 : Value} (h : Bx4 w u0 u1 u2 u3 W) (he : Ext NoB W W') : Bx4 w u0 u1 u2 u3 W' := by
  obtain ⟨h0, h1, h2, h3, hE⟩ := h
  exact ⟨he.cell h0 (fun h => h), he.cell h1 (fun h => h), he.cell h2 (fun h => h), he.cell h3 (fun h => h), hE.out.trans he⟩
theorem Bx4.start (w : World) (u0 u1 u2 u3 : Value) (t : TypeId) : Bx4 w u0 u1 u2 u3 (w.alloc (.cells #[u0, u1, u2, u3] t)) := ⟨by go_simp, by go_simp, by go_simp, by go_simp, (Ext.refl _ _).alloc _⟩
theorem TBox.bx {w W : World} {u0 u1 u2 u3 : Value} {a1 : Addr} {v1 : Value} {a2 : Addr} {v2 : Value} (h : TBox w u0 u1 u2 u3 a1 v1 a2 v2 W) : Bx4 w u0 u1 u2 u3 W := ⟨h.1, h.2.1, h.2.2.1, h.2.2.2.1, h.2.2.2.2.2.2⟩
theorem tm_mk {w : World} {O : Nat → Prop} {t : Term} {A : Option Addr} {c : Nat} (h : kInts.one w O t.kids (.slice A t.kids.length c)) (w0 : (Lit.int .i64 t.op).wf = true) (w1 : (Lit.int .i64 t.fn).wf = true) (w3 : t.num.size ≤ maxLen) : kTerm.agg w O t (.agg #[.int .i64 t.op, .int .i64 t.fn, .slice A t.kids.length c, .string t.num]) :=
  ⟨_, rfl, kTerm_iff.2 ⟨_, rfl, w0, w1, h, w3⟩⟩

section
variable {w : World} {O : Nat → Prop} {p : Nat} {A : AV} {S : St}
set_option maxRecDepth 100000 in
set_option maxHeartbeats 2000000 in
theorem c_wrongSort (h : Arena w O p A S) (t : Term) (vt : Value) (O' : Nat → Prop) (ht : kTerm.agg w O' t vt) (hok : TermOk S.funs S.terms.length S.ofs S.consts t) (hlo : S.ofs.length = S.terms.length) : Calls Tryz.prog 101 #[ptr p, vt] w fun e w' => e = .returned (.int .i64 0) ∧ Ext NoB w w' := by
  have hm := h.ofs.max
  have ht0 := ht
  obtain ⟨B, d, rfl, HK, hkm, hk⟩ := tm_open ht
  have HT := Lib.hid ht0
  have HH := Lib.hid h
  have HOK := Lib.hid hok
  have HR := Lib.hid hk
  have S0 := Lib.hid (Bx4.start w (.int .i64 t.op) (.int .i64 t.fn) (.slice B t.kids.length d) (.string t.num) 63)
  clear h ht hok hk ht0
  unfold ptr
  go_enter Tryz.func101, Tryz.ntmps101
  go_wp2_with fail
  go_loopw [10] (fun i wr => ∃ (k : Nat), k ≤ t.kids.length ∧ i = .int .i64 k ∧ Hid (Bx4 w (.int .i64 t.op) (.int .i64 t.fn) (.slice B t.kids.length d) (.string t.num) wr)) (fun i _ => t.kids.length - (intOf i).toNat)
  case atStart => exact ⟨0, Nat.zero_le _, rfl, S0⟩
  case round =>
    obtain ⟨k, hk, rfl, HX⟩ := hrel
    by_cases hlt : k < t.kids.length
    · obtain ⟨b, off, rfl, _, x1, _⟩ := ints_at HR.out hlt
      obtain ⟨q1, q2⟩ := HOK.out.kidN hlt
      have HSO := Lib.hid (HOK.out.sort k hlt)
      rw [q2] at x1
      obtain ⟨g, c, hT⟩ := HH.out.ofs.form (by omega)
      have hofs := HH.out.ofs
      have c5 := HH.out.c5
      rw [hT] at hofs c5
      have x2 := (hofs.int_at (k := kidN t k) (by omega)).1
      have r1 : (0 : Int) ≤ (kidN t k : Int) := by omega
      have r2 : (kidN t k : Int) < (S.ofs.length : Int) := by omega
      obtain ⟨b0, b1, b2, b3, HE⟩ := HX.out
      have HB : Hid (TBox w (.int .i64 t.op) (.int .i64 t.fn) (.slice (some ⟨b, off, none⟩) t.kids.length d) (.string t.num) ⟨p, 5, none⟩ (.slice (some ⟨g, 0, none⟩) S.ofs.length c) ⟨g, kidN t k, none⟩ (.int .i64 (rdI S.ofs (kidN t k))) wr.drew) :=
        ⟨b0, b1, b2, b3, HE.out.cell c5 (fun h => h), HE.out.cell x2 (fun h => h), HE.out.drew⟩
      replace x1 := HE.out.cell x1 (fun h => h)
      clear b0 b1 b2 b3 c5 x2 hT hofs
      go_wp2_with fail
      go_region_held3 (fun W => W.cell? ⟨w.heap.size, 0, none⟩ = some (.int .i64 t.op) ∧ W.cell? ⟨w.heap.size, 1, none⟩ = some (.int .i64 t.fn) ∧ W.cell? ⟨w.heap.size, 2, none⟩ = some (.slice (some ⟨b, off, none⟩) t.kids.length d) ∧ W.cell? ⟨w.heap.size, 3, none⟩ = some (.string t.num) ∧ W.cell? ⟨p, 5, none⟩ = some (.slice (some ⟨g, 0, none⟩) S.ofs.length c) ∧ W.cell? ⟨g, kidN t k, none⟩ = some (.int .i64 (rdI S.ofs (kidN t k))) ∧ Hid (Ext NoB w W))
        (first | exact HB.out | assumption | (refine TBox.ext ?_ (by assumption) <;> assumption))
        (first
          | (go_at_call 112; with_reducible refine (c_wanted (HH.out.ext (by obtain ⟨_, _, _, _, _, _, h⟩ := (by assumption : _ ∧ _); exact h.out)) t _ O' (kTerm.aggExt HT.out (by obtain ⟨_, _, _, _, _, _, h⟩ := (by assumption : _ ∧ _); exact h.out.no)) HOK.out hlo k hlt).mono ?_; rintro e w3 ⟨rfl, hq3⟩))
      have HB2 := Lib.hid (show TBox w (.int .i64 t.op) (.int .i64 t.fn) (.slice (some ⟨b, off, none⟩) t.kids.length d) (.string t.num) ⟨p, 5, none⟩ (.slice (some ⟨g, 0, none⟩) S.ofs.length c) ⟨g, kidN t k, none⟩ (.int .i64 (rdI S.ofs (kidN t k))) _ by assumption)
      have hb : (rdI S.ofs (kidN t k) != wantedT S.funs S.ofs t k) = false := by rw [HSO.out]; simp
      go_wp2_with fail
      exact ⟨⟨k + 1, by omega, by go_num, Lib.hid HB2.out.bx⟩, by simp [intOf]; omega⟩
    · go_wp2_with fail
      go_ret
      exact ⟨rfl, HX.out.2.2.2.2.out⟩

theorem Own.bool_at {W : World} {base g n c : Nat} {e : TypeId} {O : Nat → Prop} {xs : List Bool} (h : Own W base e Kd.bool O (.slice (some ⟨g, 0, none⟩) n c) xs) {k : Nat} (hk : k < xs.length) : W.cell? ⟨g, k, none⟩ = some (.bool (rdB xs k)) := by
  obtain ⟨cs, hr, hc⟩ := h.at_ (List.getElem?_eq_getElem hk)
  have hr : cs = [.bool xs[k]] := hr
  subst hr
  have := hc 0 _ rfl
  rw [rdB_eq hk]
  simpa [Kd.bool] using this

set_option maxRecDepth 100000 in
set_option maxHeartbeats 2000000 in
theorem c_wrongProduct (h : Arena w O p A S) (t : Term) (vt : Value) (O' : Nat → Prop) (ht : kTerm.agg w O' t vt) (hok : TermOk S.funs S.terms.length S.ofs S.consts t) (hlc : S.consts.length = S.terms.length) : Calls Tryz.prog 102 #[ptr p, vt] w fun e w' => e = .returned (.int .i64 0) ∧ Ext NoB w w' := by
  have hm := h.consts.max
  obtain ⟨B, d, rfl, HK, hkm, hk⟩ := tm_open ht
  have HH := Lib.hid h
  have HOK := Lib.hid hok
  have HR := Lib.hid hk
  have S0 := Lib.hid ((Ext.refl NoB w).alloc (Obj.cells #[.int .i64 t.op, .int .i64 t.fn, .slice B t.kids.length d, .string t.num] 63))
  clear h ht hok hk
  unfold ptr
  by_cases e19 : t.op = 19
  · have HP := Lib.hid (HOK.out.prod e19)
    rw [e19] at S0 ⊢
    clear e19
    go_enter Tryz.func102, Tryz.ntmps102
    go_wp2_with fail
    go_loopw [5, 14] (fun u i wr => ∃ (k : Nat), k ≤ t.kids.length ∧ i = .int .i64 k ∧ u = .int .i64 (freeTo S.consts t k : Nat) ∧ wr = w.alloc (Obj.cells #[.int .i64 19, .int .i64 t.fn, .slice B t.kids.length d, .string t.num] 63)) (fun _ i _ => t.kids.length - (intOf i).toNat)
    case atStart => exact ⟨0, Nat.zero_le _, rfl, rfl, rfl⟩
    case round =>
      obtain ⟨k, hk, rfl, rfl, rfl⟩ := hrel
      have hfle := freeTo_le S.consts t k
      by_cases hlt : k < t.kids.length
      · obtain ⟨b, off, rfl, _, x1, _⟩ := ints_at HR.out hlt
        obtain ⟨q1, q2⟩ := HOK.out.kidN hlt
        rw [q2] at x1
        obtain ⟨g, c, hT⟩ := HH.out.consts.form (by omega)
        have hcs := HH.out.consts
        have c6 := HH.out.c6
        rw [hT] at hcs c6
        have x2 := hcs.bool_at (k := kidN t k) (by omega)
        replace x1 := S0.out.cell x1 (fun h => h)
        replace x2 := S0.out.cell x2 (fun h => h)
        replace c6 := S0.out.cell c6 (fun h => h)
        have r1 : (0 : Int) ≤ (kidN t k : Int) := by omega
        have r2 : (kidN t k : Int) < (S.consts.length : Int) := by omega
        clear hT hcs
        have HST : Hid (freeTo S.consts t (k + 1) = freeTo S.consts t k + (if rdB S.consts (kidN t k) then 0 else 1)) := Lib.hid rfl
        generalize freeTo S.consts t k = f0 at *
        cases hb : rdB S.consts (kidN t k)
        · rw [hb] at x2 HST
          clear hb
          go_wp2_with fail
          exact ⟨⟨k + 1, by omega, by go_num, by rw [HST.out]; go_num, trivial⟩, by simp [intOf]; omega⟩
        · rw [hb] at x2 HST
          clear hb
          go_wp2_with fail
          exact ⟨⟨k + 1, by omega, by go_num, by rw [HST.out]; go_num, trivial⟩, by simp [intOf]; omega⟩
      · have hkn : k = t.kids.length := by omega
        have hp := HP.out
        rw [← hkn] at hp
        have hb : decide ((1 : Int) < ((freeTo S.consts t k : Nat) : Int)) = false := by rw [decide_eq_false_iff_not]; omega
        clear hp
        generalize freeTo S.consts t k = f0 at *
        go_wp2_with fail
        go_ret
        exact ⟨rfl, S0.out⟩
  · have e19' : (t.op != 19) = true := by simpa using e19
    go_enter Tryz.func102, Tryz.ntmps102
    go_wp2_with fail
    go_ret
    exact ⟨rfl, S0.out⟩

set_option maxRecDepth 100000 in
set_option maxHeartbeats 2000000 in
theorem c_result (h : Arena w O p A S) (t : Term) (vt : Value) (O' : Nat → Prop) (ht : kTerm.agg w O' t vt) {n : Nat} (hok : TermOk S.funs n S.ofs S.consts t) (hlo : S.ofs.length = n) :
    Calls Tryz.prog 115 #[ptr p, vt] w fun e w' => e = .returned (.int .i64 (resultT S.funs S.ofs t)) ∧ Ext NoB w w' := by
  have hm := h.funs.max
  have hmo := h.ofs.max
  obtain ⟨B, d, rfl, HK, hkm, hk⟩ := tm_open ht
  have hE := (Ext.refl NoB w).alloc (Obj.cells #[.int .i64 t.op, .int .i64 t.fn, .slice B t.kids.length d, .string t.num] 63)
  have hop := hok.op
  unfold ptr
  by_cases e3 : t.op = 3
  · obtain ⟨a1, a2, a3⟩ := hok.app e3
    obtain ⟨k, hk⟩ : ∃ k : Nat, t.fn = (k : Int) := ⟨t.fn.toNat, by omega⟩
    rw [hk] at a1 a2 a3
    have hkl : k < S.funs.length := by omega
    obtain ⟨f, hf⟩ := at_some hkl
    have HR : Hid (resultT S.funs S.ofs t = f.result) := Lib.hid (by rw [resultT, if_pos e3, hk, funAt_eq hf])
    obtain ⟨g, c, hT⟩ := h.funs.form (by omega)
    have hfuns := h.funs
    have c3 := h.c3
    rw [hT] at hfuns c3
    obtain ⟨A1, d1, ⟨x0, x1, x2⟩, hargs, _, _⟩ := hfuns.fun_at hf
    have y3 := hE.cell c3 (fun h => h)
    replace x2 := hE.cell x2 (fun h => h)
    rw [HR.out]
    rw [hk, e3] at y3 x2 ⊢
    clear h hfuns c3 hok ht hE hT HK hf x0 x1 a3 hkm hk hargs
    go_enter Tryz.func115, Tryz.ntmps115
    go_wp2_with fail
    go_quiet (fail)
    go_wp2_with fail
    go_ret
    exact ⟨rfl, ((Ext.refl _ _).alloc _).drewN _⟩
  by_cases e10 : t.op = 10
  · have hl3 := hok.three e10
    have HR : Hid (resultT S.funs S.ofs t = rdI S.ofs (kidN t 1)) := Lib.hid (by rw [resultT, if_neg e3, if_pos e10])
    rw [HR.out]
    obtain ⟨b, off, rfl, _, x1, _⟩ := ints_at hk (k := 1) (by omega)
    obtain ⟨q1, q2⟩ := hok.kidN (k := 1) (by omega)
    rw [q2] at x1
    obtain ⟨g, c, hT⟩ := h.ofs.form (by omega)
    have hofs := h.ofs
    have c5 := h.c5
    rw [hT] at hofs c5
    have x2 := (hofs.int_at (k := kidN t 1) (by omega)).1
    replace c5 := hE.cell c5 (fun h => h)
    replace x1 := hE.cell x1 (fun h => h)
    replace x2 := hE.cell x2 (fun h => h)
    have r1 : (0 : Int) ≤ (kidN t 1 : Int) := by omega
    have r2 : (kidN t 1 : Int) < (S.ofs.length : Int) := by omega
    rw [e10, hl3] at c5 x1 x2 ⊢
    clear h hok ht hE HK hk hkm e3 hop hT hl3 hofs q1 q2
    generalize kidN t 1 = kk at *
    generalize rdI S.ofs kk = rr at *
    go_enter Tryz.func115, Tryz.ntmps115
    go_wp2_with fail
    go_quiet (fail)
    go_wp2_with fail
    go_ret
    exact ⟨rfl, ((Ext.refl _ _).alloc _).drewN _⟩
  by_cases e4 : t.op = 4 ∨ t.op = 17 ∨ t.op = 18 ∨ t.op = 19
  · have HR : Hid (resultT S.funs S.ofs t = 1) := Lib.hid (by rw [resultT, if_neg e3, if_neg e10, if_pos e4])
    rw [HR.out]
    clear h hok ht hE HK hk
    generalize t.op = op at *
    rcases e4 with rfl | rfl | rfl | rfl
    all_goals
      go_enter Tryz.func115, Tryz.ntmps115
      go_wp2_with fail
      go_ret
      exact ⟨rfl, (Ext.refl _ _).alloc _⟩
  have HR : Hid (resultT S.funs S.ofs t = 0) := Lib.hid (by rw [resultT, if_neg e3, if_neg e10, if_neg e4])
  rw [HR.out]
  have f3 : (t.op == 3) = false := by rw [beq_eq_false_iff_ne]; omega
  have f10 : (t.op == 10) = false := by rw [beq_eq_false_iff_ne]; omega
  have f4 : (t.op == 4) = false := by rw [beq_eq_false_iff_ne]; omega
  have f17 : (t.op == 17) = false := by rw [beq_eq_false_iff_ne]; omega
  have f18 : (t.op == 18) = false := by rw [beq_eq_false_iff_ne]; omega
  have f19 : (t.op == 19) = false := by rw [beq_eq_false_iff_ne]; omega
  clear h hok ht hE HK hk
  go_enter Tryz.func115, Tryz.ntmps115
  go_wp2_with fail
  go_ret
  exact ⟨rfl, (Ext.refl _ _).alloc _⟩
end
end Go.Proofs.YtfpmapbimhdafaaGreatDoor

namespace Go.Proofs.YtfpmapbimhdafaaGreatDoor
open Go.RowKit
set_option linter.unusedVariables false
set_option linter.unusedSimpArgs false

theorem ba_inj {a b : ByteArray} (h : a.toList = b.toList) : a = b := by
  rw [Go.ByteArray.toList_eq, Go.ByteArray.toList_eq] at h
  cases a; cases b
  congr 1
  exact Array.ext' h
theorem ba_ne {a b : ByteArray} (h : a ≠ b) : (a.toList == b.toList) = false := by
  rw [beq_eq_false_iff_ne]
  exact fun e => h (ba_inj e)
theorem mixU_in (a b : Int) : 0 ≤ mixU a b ∧ mixU a b ≤ 18446744073709551615 := by
  unfold mixU
  generalize bits .xor .u64 a b * 1099511628211 = n
  have h1 : (Lit.int .u64 (IntKind.u64.wrap n)).wf = true := wf_wrap _ _
  have h2 : IntKind.u64.min = 0 := by decide
  have h3 : IntKind.u64.max = 18446744073709551615 := by decide
  simp only [Lit.wf, h2, h3, Bool.and_eq_true, decide_eq_true_eq] at h1
  omega
set_option maxRecDepth 100000 in
set_option maxHeartbeats 2000000 in
theorem c_Hash (t : Term) (vt : Value) (w : World) (O' : Nat → Prop) (ht : kTerm.agg w O' t vt) : Calls Tryz.prog 103 #[vt] w fun e w' => ∃ h : Int, e = .returned (.int .u64 h) ∧ 0 ≤ h ∧ h ≤ 18446744073709551615 ∧ Ext NoB w w' := by
  have wn : t.num.size ≤ 9223372036854775807 := by
    obtain ⟨_, _, _, _, _, _, h⟩ := term_open ht
    unfold maxLen at h
    omega
  obtain ⟨B, d, rfl, HK, hkm, hk⟩ := tm_open ht
  have HR := Lib.hid hk
  have S0 := Lib.hid (Bx4.start w (.int .i64 t.op) (.int .i64 t.fn) (.slice B t.kids.length d) (.string t.num) 63)
  clear ht hk
  go_enter Tryz.func103, Tryz.ntmps103
  go_wp2_with fail
  go_loopw [3, 18] (fun u i wr => ∃ (k : Nat) (h : Int), k ≤ 3 ∧ i = .int .i64 k ∧ u = .int .u64 h ∧ 0 ≤ h ∧ h ≤ 18446744073709551615 ∧ Hid (Bx4 w (.int .i64 t.op) (.int .i64 t.fn) (.slice B t.kids.length d) (.string t.num) wr) ∧ wr.cell? ⟨w.heap.size + 1, 0, none⟩ = some (.int .i64 t.op) ∧ wr.cell? ⟨w.heap.size + 1, 1, none⟩ = some (.int .i64 t.fn) ∧ wr.cell? ⟨w.heap.size + 1, 2, none⟩ = some (.int .i64 t.kids.length)) (fun _ i _ => 3 - (intOf i).toNat)
  case atStart => exact ⟨0, _, by omega, rfl, rfl, by omega, by omega, Lib.hid (S0.out.ext ((Ext.refl _ _).alloc _)), by go_simp, by go_simp, by go_simp⟩
  case round =>
    obtain ⟨k, h, hk, rfl, rfl, h0, h1, HB, e0, e1, e2⟩ := hrel
    rcases (show k = 0 ∨ k = 1 ∨ k = 2 ∨ k = 3 by omega) with rfl | rfl | rfl | rfl
    · go_wp2_with fail
      refine (c_mixed _ _ _).mono ?_
      rintro e w1 ⟨rfl, rfl⟩
      have hm := mixU_in h (IntKind.u64.wrap t.op)
      go_wp2_with fail
      exact ⟨⟨1, _, by omega, rfl, rfl, hm.1, hm.2, HB, e0, e1, e2⟩, by simp [intOf]⟩
    · go_wp2_with fail
      refine (c_mixed _ _ _).mono ?_
      rintro e w1 ⟨rfl, rfl⟩
      have hm := mixU_in h (IntKind.u64.wrap t.fn)
      go_wp2_with fail
      exact ⟨⟨2, _, by omega, rfl, rfl, hm.1, hm.2, HB, e0, e1, e2⟩, by simp [intOf]⟩
    · go_wp2_with fail
      refine (c_mixed _ _ _).mono ?_
      rintro e w1 ⟨rfl, rfl⟩
      have hm := fun n => mixU_in h n
      have HM := Lib.hid hm
      clear hm
      go_wp2_with fail
      exact ⟨⟨3, _, by omega, rfl, rfl, (HM.out _).1, (HM.out _).2, HB, e0, e1, e2⟩, by simp [intOf]⟩
    · obtain ⟨b0, b1, b2, b3, HE⟩ := HB.out
      rw [show ((3 : Nat) : Int) = 3 from rfl]
      go_wp2_with fail
      clear b0 b1 b2 b3 HE e0 e1 e2
      go_loopw [3, 30] (fun u i wr => ∃ (k : Nat) (h : Int), k ≤ t.kids.length ∧ i = .int .i64 k ∧ u = .int .u64 h ∧ 0 ≤ h ∧ h ≤ 18446744073709551615 ∧ Hid (Bx4 w (.int .i64 t.op) (.int .i64 t.fn) (.slice B t.kids.length d) (.string t.num) wr)) (fun _ i _ => t.kids.length - (intOf i).toNat)
      case atStart => exact ⟨0, _, by omega, rfl, rfl, h0, h1, HB⟩
      case round =>
        obtain ⟨k, h, hk, rfl, rfl, h0, h1, HB⟩ := hrel
        by_cases hlt : k < t.kids.length
        · obtain ⟨b, off, rfl, _, x1, _⟩ := ints_at HR.out hlt
          replace x1 := HB.out.2.2.2.2.out.cell x1 (fun h => h)
          go_wp2_with fail
          refine (c_mixed _ _ _).mono ?_
          rintro e w1 ⟨rfl, rfl⟩
          have HM := Lib.hid (fun n => mixU_in h n)
          go_wp2_with fail
          exact ⟨⟨k + 1, _, by omega, by go_num, rfl, (HM.out _).1, (HM.out _).2, HB⟩, by simp [intOf]; omega⟩
        · obtain ⟨b0, b1, b2, b3, HE⟩ := HB.out
          go_wp2_with fail
          clear b0 b1 b2 b3 HE
          go_loopw [3, 42] (fun u i wr => ∃ (k : Nat) (h : Int), k ≤ t.num.size ∧ i = .int .i64 k ∧ u = .int .u64 h ∧ 0 ≤ h ∧ h ≤ 18446744073709551615 ∧ Hid (Bx4 w (.int .i64 t.op) (.int .i64 t.fn) (.slice B t.kids.length d) (.string t.num) wr)) (fun _ i _ => t.num.size - (intOf i).toNat)
          case atStart => exact ⟨0, _, by omega, rfl, rfl, h0, h1, HB⟩
          case round =>
            obtain ⟨k, h, hk, rfl, rfl, h0, h1, HB⟩ := hrel
            obtain ⟨b0, b1, b2, b3, HE⟩ := HB.out
            by_cases hlt : k < t.num.size
            · go_wp2_with fail
              refine (c_mixed _ _ _).mono ?_
              rintro e w1 ⟨rfl, rfl⟩
              have HM := Lib.hid (fun n => mixU_in h n)
              go_wp2_with fail
              exact ⟨⟨k + 1, _, by omega, by go_num, rfl, (HM.out _).1, (HM.out _).2, HB⟩, by simp [intOf]; omega⟩
            · go_wp2_with fail
              go_ret
              exact ⟨h, rfl, h0, h1, HE.out⟩

set_option maxRecDepth 100000 in
set_option maxHeartbeats 2000000 in
theorem c_dsame (x y : Term) (va vb : Value) (w : World) (O : Nat → Prop) (ha : kTerm.agg w O x va) (hb : kTerm.agg w O y vb) : Calls Tryz.prog 104 #[va, vb] w fun e w' => ∃ b : Bool, e = .returned (.bool b) ∧ (b = true → x = y) ∧ Ext NoB w w' := by
  obtain ⟨B, d, rfl, HK, hkm, hk⟩ := tm_open ha
  obtain ⟨C, f, rfl, HL, hkl, hl⟩ := tm_open hb
  obtain ⟨o1, f1, k1, n1⟩ := x
  obtain ⟨o2, f2, k2, n2⟩ := y
  simp only at HK HL hkm hkl ⊢
  clear ha hb hk hl
  by_cases e1 : o1 = o2
  · subst e1
    by_cases e2 : f1 = f2
    · subst e2
      by_cases e3 : n1 = n2
      · subst e3
        have q3 : (n1 == n1) = true := (bEqB _ _).2 rfl
        go_enter Tryz.func104, Tryz.ntmps104
        go_wp2_with fail
        refine (c_Equal _ _ k1 k2 _ O (kInts.oneExt HK.out (((Ext.refl _ _).alloc _).alloc _)) (kInts.oneExt HL.out (((Ext.refl _ _).alloc _).alloc _))).mono ?_
        rintro e w1 ⟨rfl, n, rfl⟩
        generalize hb : decide (k1 = k2) = b
        have HB := Lib.hid hb
        clear hb
        go_wp2_with fail
        go_ret
        exact ⟨b, rfl, fun h => by have h2 := HB.out; rw [h] at h2; rw [of_decide_eq_true h2], (((Ext.refl _ _).alloc _).alloc _).drewN _⟩
      · have q3 : (n1 == n2) = false := by
          cases h : n1 == n2
          · rfl
          · exact absurd ((bEqB _ _).1 h) e3
        have q4 := ba_ne e3
        have q5 : ¬ n1.toList = n2.toList := fun e => e3 (ba_inj e)
        go_enter Tryz.func104, Tryz.ntmps104
        go_wp2_with fail
        go_ret
        exact ⟨false, rfl, by simp, ((Ext.refl _ _).alloc _).alloc _⟩
    · have q2 : (f1 == f2) = false := by rw [beq_eq_false_iff_ne]; exact e2
      clear e2
      go_enter Tryz.func104, Tryz.ntmps104
      go_wp2_with fail
      go_ret
      exact ⟨false, rfl, by simp, ((Ext.refl _ _).alloc _).alloc _⟩
  · have q1 : (o1 == o2) = false := by rw [beq_eq_false_iff_ne]; exact e1
    clear e1
    go_enter Tryz.func104, Tryz.ntmps104
    go_wp2_with fail
    go_ret
    exact ⟨false, rfl, by simp, ((Ext.refl _ _).alloc _).alloc _⟩

section
variable {w : World} {O : Nat → Prop} {p : Nat} {A : AV} {S : St}
set_option maxRecDepth 100000 in
set_option maxHeartbeats 2000000 in
theorem c_areSorts (h : Arena w O p A S) (va : Value) (xs : List Int) (O' : Nat → Prop) (ha : kInts.one w O' xs va) (hok : ArgsOk S.sorts.length xs) : Calls Tryz.prog 96 #[ptr p, va] w fun e w' => e = .returned (.bool true) ∧ Ext NoB w w' := by
  obtain ⟨T, c, hT, _, _⟩ := h.sorts.shape
  have c1 := h.c1
  have hm := h.sorts.max
  rw [hT] at c1
  obtain ⟨B, d, rfl, hl, hmm, hr⟩ := Kd.one_slice ha
  have hl2 : xs.length ≤ 9223372036854775807 := by unfold maxLen at hmm; omega
  have HR := Lib.hid hr
  have HT := Lib.hid hok
  clear hT h ha hok hr hmm
  unfold ptr
  go_enter Tryz.func96, Tryz.ntmps96
  go_wp2_with fail
  go_loopw [9] (fun i wr => ∃ (k : Nat), k ≤ xs.length ∧ i = .int .i64 k ∧ wr = w) (fun i _ => xs.length - (intOf i).toNat)
  case atStart => exact ⟨0, Nat.zero_le _, rfl, rfl⟩
  case round =>
    obtain ⟨k, hk, rfl, rfl⟩ := hrel
    by_cases hlt : k < xs.length
    · obtain ⟨b, off, rfl, _, x1, _⟩ := ints_at HR.out hlt
      obtain ⟨q0, q1⟩ := HT.out k hlt
      have q2 : decide (rdI xs k < 0) = false := by rw [decide_eq_false_iff_not]; omega
      have q3 : decide ((S.sorts.length : Int) ≤ rdI xs k) = false := by rw [decide_eq_false_iff_not]; omega
      go_wp2_with fail
      exact ⟨⟨k + 1, by omega, by go_num, trivial⟩, by simp [intOf]; omega⟩
    · go_wp2_with fail
      go_ret
      exact ⟨rfl, Ext.refl _ _⟩
end
end Go.Proofs.YtfpmapbimhdafaaGreatDoor

namespace Go.Proofs.YtfpmapbimhdafaaGreatDoor
open Go.RowKit
set_option linter.unusedVariables false
set_option linter.unusedSimpArgs false

theorem Sep.turn {L : List (Option Nat)} {i : Nat} {x y : Option Nat} {n : Nat} (h : Sep L) (hl : ∀ b, some b ∈ L → b < n) (hi : L[i]? = some x) (hy : y = x ∨ ∃ g, y = some g ∧ n ≤ g) : Sep (L.set i y) := by
  refine h.set i ?_
  rcases hy with rfl | ⟨g, rfl, hg⟩
  · exact .inl hi
  · refine .inr fun b hb hm => ?_
    injection hb with hb
    have := hl b hm
    omega
theorem mem_turn {L : List (Option Nat)} {i : Nat} {y : Option Nat} {b : Nat} (h : some b ∈ L.set i y) : some b ∈ L ∨ y = some b := by
  rcases List.mem_or_eq_of_mem_set h with h | h
  · exact .inl h
  · exact .inr h.symm
section
variable {w w1 : World} {O : Nat → Prop} {p : Nat} {A : AV} {S : St}
theorem Arena.at0 (A : AV) (p : Nat) : (A.own p)[0]? = some (some p) := rfl
theorem Arena.at1 (A : AV) (p : Nat) : (A.own p)[1]? = some (some A.r) := rfl
/-- A row's own block is no other row's. -/
theorem Arena.ne (h : Arena w O p A S) {i j : Nat} {x y : Option Nat} (hi : (A.own p)[i]? = some x) (hj : (A.own p)[j]? = some y) (hij : i ≠ j) {b : Nat} (hx : x = some b) : y ≠ some b := fun hy => hij (h.sep.ne (hx ▸ hi) (hy ▸ hj))
theorem Arena.lt (h : Arena w O p A S) {b : Nat} (hb : some b ∈ A.own p) : b < w.heap.size := h.old b (h.mo b hb)

theorem Arena.turn_sv (h : Arena w O p A S) {v' : Value} {xs : List Srt} (he : Ext (fun b => A.sv.ownBlock = some b) w w1) (hv : v'.ownBlock = A.sv.ownBlock ∨ ∃ g, v'.ownBlock = some g ∧ w.heap.size ≤ g) (ho : Own w1 0 74 kSrt O v' xs) :
    Arena (w1.setCell ⟨p, 1, none⟩ v') (PlusV O v') p { A with sv := v' } { S with sorts := xs } ∧ Ext (fun b => A.sv.ownBlock = some b ∨ b = p) w (w1.setCell ⟨p, 1, none⟩ v') := by
  have np : ¬ A.sv.ownBlock = some p := fun e => h.ne (A.at2 p) (Arena.at0 A p) (by decide) e rfl
  have nr : ¬ A.sv.ownBlock = some A.r := fun e => h.ne (A.at2 p) (Arena.at1 A p) (by decide) e rfl
  have hpl : p < w1.heap.size := Nat.lt_of_lt_of_le h.pl he.size
  have hE : Ext (fun b => A.sv.ownBlock = some b ∨ b = p) w (w1.setCell ⟨p, 1, none⟩ v') := (he.mono fun b _ hb => .inl hb).setO (p := ⟨p, 1, none⟩) (.inr rfl) v'
  have hO1 : ∀ b, (A.sv.ownBlock = some b ∨ b = p) → O b := fun b hb => hb.elim (fun e => h.mo b (A.mem p (i := 2) (by rw [A.at2 p, e]))) (fun e => e ▸ h.po)
  have hrow : ∀ {i : Nat} {v : Value}, (A.own p)[i]? = some v.ownBlock → i ≠ 2 → i ≠ 0 → ∀ b, b < w.heap.size → (A.sv.ownBlock = some b ∨ b = p) → O b ∧ v.ownBlock ≠ some b := fun hi h4 h0 b hb hO => ⟨hO1 b hO, hO.elim (fun e => h.ne (A.at2 p) hi (Ne.symm h4) e) (fun e => h.ne (Arena.at0 A p) hi (Ne.symm h0) (by rw [e]))⟩
  have hO2 : ∀ b, b < w.heap.size → PlusV O v' b → O b := fun b hb h' => h'.elim id fun e => by
    rcases hv with hv | ⟨g, hg, hgl⟩
    · exact hO1 b (.inl (hv ▸ e))
    · rw [hg] at e
      injection e with e
      omega
  have hcell : ∀ {k : Nat} {u : Value}, k ≠ 1 → w.cell? ⟨p, k, none⟩ = some u → (w1.setCell ⟨p, 1, none⟩ v').cell? ⟨p, k, none⟩ = some u := fun hk hu => by
    rw [World.cell?_setCell_other _ _ _ _ (by intro e; injection e with e1 e2; omega)]
    exact he.cell hu np
  have hcell4 : (w1.setCell ⟨p, 1, none⟩ v').cell? ⟨p, 1, none⟩ = some v' := by
    have h0 : w1.cell? ⟨p, 1, none⟩ = some A.sv := he.cell h.c1 np
    go_simp
  refine ⟨⟨?_, ?_, ?_, ?_, ?_, ?_, ?_, ?_, ?_, ?_, ?_, fun j => ?_, ?_, ?_, ?_, ?_, ?_, ?_, ?_, ?_, h.nb⟩, hE⟩
  · rintro b (hb | hb)
    · exact Nat.lt_of_lt_of_le (h.old b hb) hE.size
    · have := (ho.base hb).2
      simpa [World.setCell] using this
  · intro b hb
    rcases mem_turn (L := A.own p) (i := 2) (y := v'.ownBlock) hb with hb | hb
    · exact .inl (h.mo b hb)
    · exact .inr hb
  · exact Sep.turn (L := A.own p) (i := 2) (n := w.heap.size) h.sep (fun b hb => h.lt hb) (A.at2 p) hv
  · exact hcell (by decide) h.c0
  · exact hcell4
  · exact hcell (by decide) h.c2
  · exact hcell (by decide) h.c3
  · exact hcell (by decide) h.c4
  · exact hcell (by decide) h.c5
  · exact hcell (by decide) h.c6
  · exact hcell (by decide) h.c7
  · rw [World.frozen?_setCell]
    exact (he.frozen h.pl np).trans (h.fz j)
  · exact h.keys.ext hE (fun e => e.elim nr (fun e => h.ne (Arena.at0 A p) (Arena.at1 A p) (by decide) rfl (by rw [e])))
  · refine (ho.with_ (O' := PlusV O v') (fun b hb => hb)).move ((Ext.refl (fun b => b = p) w1).setO (p := ⟨p, 1, none⟩) rfl v') (fun b hb e => ⟨.inl (e ▸ h.po), fun e2 => ?_⟩) (fun _ _ h => h)
    rw [e] at e2
    rcases hv with hv | ⟨g, hg, hgl⟩
    · exact np (hv ▸ e2)
    · rw [hg] at e2
      injection e2 with e2
      have := h.pl
      omega
  · exact h.funs.move hE (hrow (A.at3 p) (by decide) (by decide)) hO2
  · exact h.terms.move hE (hrow (A.at4 p) (by decide) (by decide)) hO2
  · exact h.ofs.move hE (hrow (A.at5 p) (by decide) (by decide)) hO2
  · exact h.consts.move hE (hrow (A.at6 p) (by decide) (by decide)) hO2
  · exact h.bks.move hE (hrow (A.at7 p) (by decide) (by decide)) hO2
  · intro b hb
    obtain ⟨k, hk⟩ := List.getElem?_of_mem hb
    have h0 := h.ins b hb
    exact ⟨h0.1.move hE (hrow (A.at8 p hk) (by omega) (by omega)) hO2, h0.2⟩

theorem Arena.turn_fv (h : Arena w O p A S) {v' : Value} {xs : List Fun} (he : Ext (fun b => A.fv.ownBlock = some b) w w1) (hv : v'.ownBlock = A.fv.ownBlock ∨ ∃ g, v'.ownBlock = some g ∧ w.heap.size ≤ g) (ho : Own w1 0 71 kFun O v' xs) :
    Arena (w1.setCell ⟨p, 3, none⟩ v') (PlusV O v') p { A with fv := v' } { S with funs := xs } ∧ Ext (fun b => A.fv.ownBlock = some b ∨ b = p) w (w1.setCell ⟨p, 3, none⟩ v') := by
  have np : ¬ A.fv.ownBlock = some p := fun e => h.ne (A.at3 p) (Arena.at0 A p) (by decide) e rfl
  have nr : ¬ A.fv.ownBlock = some A.r := fun e => h.ne (A.at3 p) (Arena.at1 A p) (by decide) e rfl
  have hpl : p < w1.heap.size := Nat.lt_of_lt_of_le h.pl he.size
  have hE : Ext (fun b => A.fv.ownBlock = some b ∨ b = p) w (w1.setCell ⟨p, 3, none⟩ v') := (he.mono fun b _ hb => .inl hb).setO (p := ⟨p, 3, none⟩) (.inr rfl) v'
  have hO1 : ∀ b, (A.fv.ownBlock = some b ∨ b = p) → O b := fun b hb => hb.elim (fun e => h.mo b (A.mem p (i := 3) (by rw [A.at3 p, e]))) (fun e => e ▸ h.po)
  have hrow : ∀ {i : Nat} {v : Value}, (A.own p)[i]? = some v.ownBlock → i ≠ 3 → i ≠ 0 → ∀ b, b < w.heap.size → (A.fv.ownBlock = some b ∨ b = p) → O b ∧ v.ownBlock ≠ some b := fun hi h4 h0 b hb hO => ⟨hO1 b hO, hO.elim (fun e => h.ne (A.at3 p) hi (Ne.symm h4) e) (fun e => h.ne (Arena.at0 A p) hi (Ne.symm h0) (by rw [e]))⟩
  have hO2 : ∀ b, b < w.heap.size → PlusV O v' b → O b := fun b hb h' => h'.elim id fun e => by
    rcases hv with hv | ⟨g, hg, hgl⟩
    · exact hO1 b (.inl (hv ▸ e))
    · rw [hg] at e
      injection e with e
      omega
  have hcell : ∀ {k : Nat} {u : Value}, k ≠ 3 → w.cell? ⟨p, k, none⟩ = some u → (w1.setCell ⟨p, 3, none⟩ v').cell? ⟨p, k, none⟩ = some u := fun hk hu => by
    rw [World.cell?_setCell_other _ _ _ _ (by intro e; injection e with e1 e2; omega)]
    exact he.cell hu np
  have hcell4 : (w1.setCell ⟨p, 3, none⟩ v').cell? ⟨p, 3, none⟩ = some v' := by
    have h0 : w1.cell? ⟨p, 3, none⟩ = some A.fv := he.cell h.c3 np
    go_simp
  refine ⟨⟨?_, ?_, ?_, ?_, ?_, ?_, ?_, ?_, ?_, ?_, ?_, fun j => ?_, ?_, ?_, ?_, ?_, ?_, ?_, ?_, ?_, h.nb⟩, hE⟩
  · rintro b (hb | hb)
    · exact Nat.lt_of_lt_of_le (h.old b hb) hE.size
    · have := (ho.base hb).2
      simpa [World.setCell] using this
  · intro b hb
    rcases mem_turn (L := A.own p) (i := 3) (y := v'.ownBlock) hb with hb | hb
    · exact .inl (h.mo b hb)
    · exact .inr hb
  · exact Sep.turn (L := A.own p) (i := 3) (n := w.heap.size) h.sep (fun b hb => h.lt hb) (A.at3 p) hv
  · exact hcell (by decide) h.c0
  · exact hcell (by decide) h.c1
  · exact hcell (by decide) h.c2
  · exact hcell4
  · exact hcell (by decide) h.c4
  · exact hcell (by decide) h.c5
  · exact hcell (by decide) h.c6
  · exact hcell (by decide) h.c7
  · rw [World.frozen?_setCell]
    exact (he.frozen h.pl np).trans (h.fz j)
  · exact h.keys.ext hE (fun e => e.elim nr (fun e => h.ne (Arena.at0 A p) (Arena.at1 A p) (by decide) rfl (by rw [e])))
  · exact h.sorts.move hE (hrow (A.at2 p) (by decide) (by decide)) hO2
  · refine (ho.with_ (O' := PlusV O v') (fun b hb => hb)).move ((Ext.refl (fun b => b = p) w1).setO (p := ⟨p, 3, none⟩) rfl v') (fun b hb e => ⟨.inl (e ▸ h.po), fun e2 => ?_⟩) (fun _ _ h => h)
    rw [e] at e2
    rcases hv with hv | ⟨g, hg, hgl⟩
    · exact np (hv ▸ e2)
    · rw [hg] at e2
      injection e2 with e2
      have := h.pl
      omega
  · exact h.terms.move hE (hrow (A.at4 p) (by decide) (by decide)) hO2
  · exact h.ofs.move hE (hrow (A.at5 p) (by decide) (by decide)) hO2
  · exact h.consts.move hE (hrow (A.at6 p) (by decide) (by decide)) hO2
  · exact h.bks.move hE (hrow (A.at7 p) (by decide) (by decide)) hO2
  · intro b hb
    obtain ⟨k, hk⟩ := List.getElem?_of_mem hb
    have h0 := h.ins b hb
    exact ⟨h0.1.move hE (hrow (A.at8 p hk) (by omega) (by omega)) hO2, h0.2⟩

theorem Arena.turn_tv (h : Arena w O p A S) {v' : Value} {xs : List Term} (he : Ext (fun b => A.tv.ownBlock = some b) w w1) (hv : v'.ownBlock = A.tv.ownBlock ∨ ∃ g, v'.ownBlock = some g ∧ w.heap.size ≤ g) (ho : Own w1 0 63 kTerm O v' xs) (hlen : S.terms.length ≤ xs.length) :
    Arena (w1.setCell ⟨p, 4, none⟩ v') (PlusV O v') p { A with tv := v' } { S with terms := xs } ∧ Ext (fun b => A.tv.ownBlock = some b ∨ b = p) w (w1.setCell ⟨p, 4, none⟩ v') := by
  have np : ¬ A.tv.ownBlock = some p := fun e => h.ne (A.at4 p) (Arena.at0 A p) (by decide) e rfl
  have nr : ¬ A.tv.ownBlock = some A.r := fun e => h.ne (A.at4 p) (Arena.at1 A p) (by decide) e rfl
  have hpl : p < w1.heap.size := Nat.lt_of_lt_of_le h.pl he.size
  have hE : Ext (fun b => A.tv.ownBlock = some b ∨ b = p) w (w1.setCell ⟨p, 4, none⟩ v') := (he.mono fun b _ hb => .inl hb).setO (p := ⟨p, 4, none⟩) (.inr rfl) v'
  have hO1 : ∀ b, (A.tv.ownBlock = some b ∨ b = p) → O b := fun b hb => hb.elim (fun e => h.mo b (A.mem p (i := 4) (by rw [A.at4 p, e]))) (fun e => e ▸ h.po)
  have hrow : ∀ {i : Nat} {v : Value}, (A.own p)[i]? = some v.ownBlock → i ≠ 4 → i ≠ 0 → ∀ b, b < w.heap.size → (A.tv.ownBlock = some b ∨ b = p) → O b ∧ v.ownBlock ≠ some b := fun hi h4 h0 b hb hO => ⟨hO1 b hO, hO.elim (fun e => h.ne (A.at4 p) hi (Ne.symm h4) e) (fun e => h.ne (Arena.at0 A p) hi (Ne.symm h0) (by rw [e]))⟩
  have hO2 : ∀ b, b < w.heap.size → PlusV O v' b → O b := fun b hb h' => h'.elim id fun e => by
    rcases hv with hv | ⟨g, hg, hgl⟩
    · exact hO1 b (.inl (hv ▸ e))
    · rw [hg] at e
      injection e with e
      omega
  have hcell : ∀ {k : Nat} {u : Value}, k ≠ 4 → w.cell? ⟨p, k, none⟩ = some u → (w1.setCell ⟨p, 4, none⟩ v').cell? ⟨p, k, none⟩ = some u := fun hk hu => by
    rw [World.cell?_setCell_other _ _ _ _ (by intro e; injection e with e1 e2; omega)]
    exact he.cell hu np
  have hcell4 : (w1.setCell ⟨p, 4, none⟩ v').cell? ⟨p, 4, none⟩ = some v' := by
    have h0 : w1.cell? ⟨p, 4, none⟩ = some A.tv := he.cell h.c4 np
    go_simp
  refine ⟨⟨?_, ?_, ?_, ?_, ?_, ?_, ?_, ?_, ?_, ?_, ?_, fun j => ?_, ?_, ?_, ?_, ?_, ?_, ?_, ?_, ?_, h.nb⟩, hE⟩
  · rintro b (hb | hb)
    · exact Nat.lt_of_lt_of_le (h.old b hb) hE.size
    · have := (ho.base hb).2
      simpa [World.setCell] using this
  · intro b hb
    rcases mem_turn (L := A.own p) (i := 4) (y := v'.ownBlock) hb with hb | hb
    · exact .inl (h.mo b hb)
    · exact .inr hb
  · exact Sep.turn (L := A.own p) (i := 4) (n := w.heap.size) h.sep (fun b hb => h.lt hb) (A.at4 p) hv
  · exact hcell (by decide) h.c0
  · exact hcell (by decide) h.c1
  · exact hcell (by decide) h.c2
  · exact hcell (by decide) h.c3
  · exact hcell4
  · exact hcell (by decide) h.c5
  · exact hcell (by decide) h.c6
  · exact hcell (by decide) h.c7
  · rw [World.frozen?_setCell]
    exact (he.frozen h.pl np).trans (h.fz j)
  · exact h.keys.ext hE (fun e => e.elim nr (fun e => h.ne (Arena.at0 A p) (Arena.at1 A p) (by decide) rfl (by rw [e])))
  · exact h.sorts.move hE (hrow (A.at2 p) (by decide) (by decide)) hO2
  · exact h.funs.move hE (hrow (A.at3 p) (by decide) (by decide)) hO2
  · refine (ho.with_ (O' := PlusV O v') (fun b hb => hb)).move ((Ext.refl (fun b => b = p) w1).setO (p := ⟨p, 4, none⟩) rfl v') (fun b hb e => ⟨.inl (e ▸ h.po), fun e2 => ?_⟩) (fun _ _ h => h)
    rw [e] at e2
    rcases hv with hv | ⟨g, hg, hgl⟩
    · exact np (hv ▸ e2)
    · rw [hg] at e2
      injection e2 with e2
      have := h.pl
      omega
  · exact h.ofs.move hE (hrow (A.at5 p) (by decide) (by decide)) hO2
  · exact h.consts.move hE (hrow (A.at6 p) (by decide) (by decide)) hO2
  · exact h.bks.move hE (hrow (A.at7 p) (by decide) (by decide)) hO2
  · intro b hb
    obtain ⟨k, hk⟩ := List.getElem?_of_mem hb
    have h0 := h.ins b hb
    exact ⟨h0.1.move hE (hrow (A.at8 p hk) (by omega) (by omega)) hO2, fun x hx => ⟨(h0.2.1 x hx).1, by have := (h0.2.1 x hx).2; simp only; omega⟩, by simp only; omega⟩

theorem Arena.turn_ov (h : Arena w O p A S) {v' : Value} {xs : List Int} (he : Ext (fun b => A.ov.ownBlock = some b) w w1) (hv : v'.ownBlock = A.ov.ownBlock ∨ ∃ g, v'.ownBlock = some g ∧ w.heap.size ≤ g) (ho : Own w1 0 3 kInt O v' xs) :
    Arena (w1.setCell ⟨p, 5, none⟩ v') (PlusV O v') p { A with ov := v' } { S with ofs := xs } ∧ Ext (fun b => A.ov.ownBlock = some b ∨ b = p) w (w1.setCell ⟨p, 5, none⟩ v') := by
  have np : ¬ A.ov.ownBlock = some p := fun e => h.ne (A.at5 p) (Arena.at0 A p) (by decide) e rfl
  have nr : ¬ A.ov.ownBlock = some A.r := fun e => h.ne (A.at5 p) (Arena.at1 A p) (by decide) e rfl
  have hpl : p < w1.heap.size := Nat.lt_of_lt_of_le h.pl he.size
  have hE : Ext (fun b => A.ov.ownBlock = some b ∨ b = p) w (w1.setCell ⟨p, 5, none⟩ v') := (he.mono fun b _ hb => .inl hb).setO (p := ⟨p, 5, none⟩) (.inr rfl) v'
  have hO1 : ∀ b, (A.ov.ownBlock = some b ∨ b = p) → O b := fun b hb => hb.elim (fun e => h.mo b (A.mem p (i := 5) (by rw [A.at5 p, e]))) (fun e => e ▸ h.po)
  have hrow : ∀ {i : Nat} {v : Value}, (A.own p)[i]? = some v.ownBlock → i ≠ 5 → i ≠ 0 → ∀ b, b < w.heap.size → (A.ov.ownBlock = some b ∨ b = p) → O b ∧ v.ownBlock ≠ some b := fun hi h4 h0 b hb hO => ⟨hO1 b hO, hO.elim (fun e => h.ne (A.at5 p) hi (Ne.symm h4) e) (fun e => h.ne (Arena.at0 A p) hi (Ne.symm h0) (by rw [e]))⟩
  have hO2 : ∀ b, b < w.heap.size → PlusV O v' b → O b := fun b hb h' => h'.elim id fun e => by
    rcases hv with hv | ⟨g, hg, hgl⟩
    · exact hO1 b (.inl (hv ▸ e))
    · rw [hg] at e
      injection e with e
      omega
  have hcell : ∀ {k : Nat} {u : Value}, k ≠ 5 → w.cell? ⟨p, k, none⟩ = some u → (w1.setCell ⟨p, 5, none⟩ v').cell? ⟨p, k, none⟩ = some u := fun hk hu => by
    rw [World.cell?_setCell_other _ _ _ _ (by intro e; injection e with e1 e2; omega)]
    exact he.cell hu np
  have hcell4 : (w1.setCell ⟨p, 5, none⟩ v').cell? ⟨p, 5, none⟩ = some v' := by
    have h0 : w1.cell? ⟨p, 5, none⟩ = some A.ov := he.cell h.c5 np
    go_simp
  refine ⟨⟨?_, ?_, ?_, ?_, ?_, ?_, ?_, ?_, ?_, ?_, ?_, fun j => ?_, ?_, ?_, ?_, ?_, ?_, ?_, ?_, ?_, h.nb⟩, hE⟩
  · rintro b (hb | hb)
    · exact Nat.lt_of_lt_of_le (h.old b hb) hE.size
    · have := (ho.base hb).2
      simpa [World.setCell] using this
  · intro b hb
    rcases mem_turn (L := A.own p) (i := 5) (y := v'.ownBlock) hb with hb | hb
    · exact .inl (h.mo b hb)
    · exact .inr hb
  · exact Sep.turn (L := A.own p) (i := 5) (n := w.heap.size) h.sep (fun b hb => h.lt hb) (A.at5 p) hv
  · exact hcell (by decide) h.c0
  · exact hcell (by decide) h.c1
  · exact hcell (by decide) h.c2
  · exact hcell (by decide) h.c3
  · exact hcell (by decide) h.c4
  · exact hcell4
  · exact hcell (by decide) h.c6
  · exact hcell (by decide) h.c7
  · rw [World.frozen?_setCell]
    exact (he.frozen h.pl np).trans (h.fz j)
  · exact h.keys.ext hE (fun e => e.elim nr (fun e => h.ne (Arena.at0 A p) (Arena.at1 A p) (by decide) rfl (by rw [e])))
  · exact h.sorts.move hE (hrow (A.at2 p) (by decide) (by decide)) hO2
  · exact h.funs.move hE (hrow (A.at3 p) (by decide) (by decide)) hO2
  · exact h.terms.move hE (hrow (A.at4 p) (by decide) (by decide)) hO2
  · refine (ho.with_ (O' := PlusV O v') (fun b hb => hb)).move ((Ext.refl (fun b => b = p) w1).setO (p := ⟨p, 5, none⟩) rfl v') (fun b hb e => ⟨.inl (e ▸ h.po), fun e2 => ?_⟩) (fun _ _ h => h)
    rw [e] at e2
    rcases hv with hv | ⟨g, hg, hgl⟩
    · exact np (hv ▸ e2)
    · rw [hg] at e2
      injection e2 with e2
      have := h.pl
      omega
  · exact h.consts.move hE (hrow (A.at6 p) (by decide) (by decide)) hO2
  · exact h.bks.move hE (hrow (A.at7 p) (by decide) (by decide)) hO2
  · intro b hb
    obtain ⟨k, hk⟩ := List.getElem?_of_mem hb
    have h0 := h.ins b hb
    exact ⟨h0.1.move hE (hrow (A.at8 p hk) (by omega) (by omega)) hO2, h0.2⟩

theorem Arena.turn_cv (h : Arena w O p A S) {v' : Value} {xs : List Bool} (he : Ext (fun b => A.cv.ownBlock = some b) w w1) (hv : v'.ownBlock = A.cv.ownBlock ∨ ∃ g, v'.ownBlock = some g ∧ w.heap.size ≤ g) (ho : Own w1 0 4 Kd.bool O v' xs) :
    Arena (w1.setCell ⟨p, 6, none⟩ v') (PlusV O v') p { A with cv := v' } { S with consts := xs } ∧ Ext (fun b => A.cv.ownBlock = some b ∨ b = p) w (w1.setCell ⟨p, 6, none⟩ v') := by
  have np : ¬ A.cv.ownBlock = some p := fun e => h.ne (A.at6 p) (Arena.at0 A p) (by decide) e rfl
  have nr : ¬ A.cv.ownBlock = some A.r := fun e => h.ne (A.at6 p) (Arena.at1 A p) (by decide) e rfl
  have hpl : p < w1.heap.size := Nat.lt_of_lt_of_le h.pl he.size
  have hE : Ext (fun b => A.cv.ownBlock = some b ∨ b = p) w (w1.setCell ⟨p, 6, none⟩ v') := (he.mono fun b _ hb => .inl hb).setO (p := ⟨p, 6, none⟩) (.inr rfl) v'
  have hO1 : ∀ b, (A.cv.ownBlock = some b ∨ b = p) → O b := fun b hb => hb.elim (fun e => h.mo b (A.mem p (i := 6) (by rw [A.at6 p, e]))) (fun e => e ▸ h.po)
  have hrow : ∀ {i : Nat} {v : Value}, (A.own p)[i]? = some v.ownBlock → i ≠ 6 → i ≠ 0 → ∀ b, b < w.heap.size → (A.cv.ownBlock = some b ∨ b = p) → O b ∧ v.ownBlock ≠ some b := fun hi h4 h0 b hb hO => ⟨hO1 b hO, hO.elim (fun e => h.ne (A.at6 p) hi (Ne.symm h4) e) (fun e => h.ne (Arena.at0 A p) hi (Ne.symm h0) (by rw [e]))⟩
  have hO2 : ∀ b, b < w.heap.size → PlusV O v' b → O b := fun b hb h' => h'.elim id fun e => by
    rcases hv with hv | ⟨g, hg, hgl⟩
    · exact hO1 b (.inl (hv ▸ e))
    · rw [hg] at e
      injection e with e
      omega
  have hcell : ∀ {k : Nat} {u : Value}, k ≠ 6 → w.cell? ⟨p, k, none⟩ = some u → (w1.setCell ⟨p, 6, none⟩ v').cell? ⟨p, k, none⟩ = some u := fun hk hu => by
    rw [World.cell?_setCell_other _ _ _ _ (by intro e; injection e with e1 e2; omega)]
    exact he.cell hu np
  have hcell4 : (w1.setCell ⟨p, 6, none⟩ v').cell? ⟨p, 6, none⟩ = some v' := by
    have h0 : w1.cell? ⟨p, 6, none⟩ = some A.cv := he.cell h.c6 np
    go_simp
  refine ⟨⟨?_, ?_, ?_, ?_, ?_, ?_, ?_, ?_, ?_, ?_, ?_, fun j => ?_, ?_, ?_, ?_, ?_, ?_, ?_, ?_, ?_, h.nb⟩, hE⟩
  · rintro b (hb | hb)
    · exact Nat.lt_of_lt_of_le (h.old b hb) hE.size
    · have := (ho.base hb).2
      simpa [World.setCell] using this
  · intro b hb
    rcases mem_turn (L := A.own p) (i := 6) (y := v'.ownBlock) hb with hb | hb
    · exact .inl (h.mo b hb)
    · exact .inr hb
  · exact Sep.turn (L := A.own p) (i := 6) (n := w.heap.size) h.sep (fun b hb => h.lt hb) (A.at6 p) hv
  · exact hcell (by decide) h.c0
  · exact hcell (by decide) h.c1
  · exact hcell (by decide) h.c2
  · exact hcell (by decide) h.c3
  · exact hcell (by decide) h.c4
  · exact hcell (by decide) h.c5
  · exact hcell4
  · exact hcell (by decide) h.c7
  · rw [World.frozen?_setCell]
    exact (he.frozen h.pl np).trans (h.fz j)
  · exact h.keys.ext hE (fun e => e.elim nr (fun e => h.ne (Arena.at0 A p) (Arena.at1 A p) (by decide) rfl (by rw [e])))
  · exact h.sorts.move hE (hrow (A.at2 p) (by decide) (by decide)) hO2
  · exact h.funs.move hE (hrow (A.at3 p) (by decide) (by decide)) hO2
  · exact h.terms.move hE (hrow (A.at4 p) (by decide) (by decide)) hO2
  · exact h.ofs.move hE (hrow (A.at5 p) (by decide) (by decide)) hO2
  · refine (ho.with_ (O' := PlusV O v') (fun b hb => hb)).move ((Ext.refl (fun b => b = p) w1).setO (p := ⟨p, 6, none⟩) rfl v') (fun b hb e => ⟨.inl (e ▸ h.po), fun e2 => ?_⟩) (fun _ _ h => h)
    rw [e] at e2
    rcases hv with hv | ⟨g, hg, hgl⟩
    · exact np (hv ▸ e2)
    · rw [hg] at e2
      injection e2 with e2
      have := h.pl
      omega
  · exact h.bks.move hE (hrow (A.at7 p) (by decide) (by decide)) hO2
  · intro b hb
    obtain ⟨k, hk⟩ := List.getElem?_of_mem hb
    have h0 := h.ins b hb
    exact ⟨h0.1.move hE (hrow (A.at8 p hk) (by omega) (by omega)) hO2, h0.2⟩
end
end Go.Proofs.YtfpmapbimhdafaaGreatDoor

namespace Go.Proofs.YtfpmapbimhdafaaGreatDoor
open Go.RowKit
set_option linter.unusedVariables false
set_option linter.unusedSimpArgs false

section
variable {w w1 : World} {O : Nat → Prop} {p : Nat} {A : AV} {S : St}
theorem Arena.bv_form (h : Arena w O p A S) : ∃ g c, A.bv = .slice (some ⟨g, 0, none⟩) A.bs.length c ∧ A.bs.length ≤ c ∧ c ≤ maxLen := by
  obtain ⟨g, c, hv⟩ := h.bks.form (by rw [List.length_map]; have := h.nb; omega)
  obtain ⟨B, d, hv2, h1, h2⟩ := h.bks.shape
  rw [hv] at hv2
  injection hv2 with e1 e2 e3
  subst e3
  rw [List.length_map] at hv h1
  exact ⟨g, c, hv, h1, h2⟩
theorem Arena.bucket_at (h : Arena w O p A S) {g c n : Nat} (hb : A.bv = .slice (some ⟨g, 0, none⟩) n c) {i : Nat} {b : Value × List Int} (hi : A.bs[i]? = some b) : w.cell? ⟨g, i, none⟩ = some b.1 ∧ w.frozen? ⟨g, i, none⟩ = false := by
  have h0 := h.bks
  rw [hb] at h0
  obtain ⟨cs, hr, hc⟩ := h0.at_ (i := i) (x := b.1) (by rw [List.getElem?_map, hi]; rfl)
  have hr : cs = [b.1] ∧ b.1.oneCell' = true := hr
  obtain ⟨rfl, _⟩ := hr
  have := hc 0 _ rfl
  exact ⟨by simpa [kAny] using this, h0.frozenAt i⟩
theorem slice_one (A : Option Addr) (n c : Nat) : (Value.slice A n c).oneCell' = true := by simp [Value.oneCell']

theorem Arena.turn_bucket (h : Arena w O p A S) {i g c n : Nat} {v v' : Value} {l xs : List Int} (hi : A.bs[i]? = some (v, l)) (hg : A.bv = .slice (some ⟨g, 0, none⟩) n c) (he : Ext (fun b => v.ownBlock = some b) w w1) (hv : v'.ownBlock = v.ownBlock ∨ ∃ g, v'.ownBlock = some g ∧ w.heap.size ≤ g)
    (ho : Own w1 0 3 kInt O v' xs) (hx : ∀ x ∈ xs, 0 ≤ x ∧ x < S.terms.length) (hl : xs.length ≤ S.terms.length) :
    Arena (w1.setCell ⟨g, i, none⟩ v') (PlusV O v') p { A with bs := A.bs.set i (v', xs) } S ∧ Ext (fun b => v.ownBlock = some b ∨ b = g) w (w1.setCell ⟨g, i, none⟩ v') := by
  have hil : i < A.bs.length := (List.getElem?_eq_some_iff.1 hi).1
  have hbv : A.bv.ownBlock = some g := by rw [hg]; rfl
  have np : ¬ v.ownBlock = some p := fun e => h.ne (A.at8 p hi) (Arena.at0 A p) (by omega) e rfl
  have nr : ¬ v.ownBlock = some A.r := fun e => h.ne (A.at8 p hi) (Arena.at1 A p) (by omega) e rfl
  have ngp : g ≠ p := fun e => h.ne (A.at7 p) (Arena.at0 A p) (by decide) hbv (by rw [e])
  have ngr : g ≠ A.r := fun e => h.ne (A.at7 p) (Arena.at1 A p) (by decide) hbv (by rw [e])
  have nvg : ¬ v.ownBlock = some g := fun e => h.ne (A.at8 p hi) (A.at7 p) (by omega) e hbv
  have hgO : O g := h.mo g (A.mem p (i := 7) (by rw [A.at7 p, hbv]))
  have hgl : g < w.heap.size := h.old g hgO
  have hE : Ext (fun b => v.ownBlock = some b ∨ b = g) w (w1.setCell ⟨g, i, none⟩ v') := (he.mono fun b _ hb => .inl hb).setO (p := ⟨g, i, none⟩) (.inr rfl) v'
  have hO1 : ∀ b, (v.ownBlock = some b ∨ b = g) → O b := fun b hb => hb.elim (fun e => h.mo b (A.mem p (i := 8 + i) (by rw [A.at8 p hi, e]))) (fun e => e ▸ hgO)
  have hrow : ∀ {j : Nat} {u : Value}, (A.own p)[j]? = some u.ownBlock → j ≠ 8 + i → j ≠ 7 → ∀ b, b < w.heap.size → (v.ownBlock = some b ∨ b = g) → O b ∧ u.ownBlock ≠ some b := fun hj h4 h0 b hb hO => ⟨hO1 b hO, hO.elim (fun e => h.ne (A.at8 p hi) hj (Ne.symm h4) e) (fun e => h.ne (A.at7 p) hj (Ne.symm h0) (by rw [hbv, e]))⟩
  have hO2 : ∀ b, b < w.heap.size → PlusV O v' b → O b := fun b hb h' => h'.elim id fun e => by
    rcases hv with hv | ⟨g, hg, hgl⟩
    · exact hO1 b (.inl (hv ▸ e))
    · rw [hg] at e
      injection e with e
      omega
  have nv'g : ¬ v'.ownBlock = some g := fun e => by
    rcases hv with hv | ⟨g', hg', hgl'⟩
    · exact nvg (hv ▸ e)
    · rw [hg'] at e
      injection e with e
      omega
  have hcell : ∀ {k : Nat} {u : Value}, w.cell? ⟨p, k, none⟩ = some u → (w1.setCell ⟨g, i, none⟩ v').cell? ⟨p, k, none⟩ = some u := fun hu => by
    rw [World.cell?_setCell_other _ _ _ _ (by intro e; injection e with e1 e2; omega)]
    exact he.cell hu np
  have hown' : ({ A with bs := A.bs.set i (v', xs) } : AV).own p = (A.own p).set (8 + i) v'.ownBlock := by
    rw [show 8 + i = i + 1 + 1 + 1 + 1 + 1 + 1 + 1 + 1 by omega]
    simp [AV.own, List.map_set]
  refine ⟨⟨?_, ?_, ?_, hcell h.c0, hcell h.c1, hcell h.c2, hcell h.c3, hcell h.c4, hcell h.c5, hcell h.c6, hcell h.c7, fun j => ?_, ?_, ?_, ?_, ?_, ?_, ?_, ?_, ?_, ?_⟩, hE⟩
  · rintro b (hb | hb)
    · exact Nat.lt_of_lt_of_le (h.old b hb) hE.size
    · have := (ho.base hb).2
      simpa [World.setCell] using this
  · intro b hb
    rw [AV.mo, hown'] at hb
    rcases mem_turn hb with hb | hb
    · exact .inl (h.mo b hb)
    · exact .inr hb
  · rw [hown']
    exact Sep.turn (n := w.heap.size) h.sep (fun b hb => h.lt hb) (A.at8 p hi) hv
  · rw [World.frozen?_setCell]
    exact (he.frozen h.pl np).trans (h.fz j)
  · exact h.keys.ext hE (fun e => e.elim nr (fun e => ngr e.symm))
  · exact h.sorts.move hE (hrow (A.at2 p) (by omega) (by decide)) hO2
  · exact h.funs.move hE (hrow (A.at3 p) (by omega) (by decide)) hO2
  · exact h.terms.move hE (hrow (A.at4 p) (by omega) (by decide)) hO2
  · exact h.ofs.move hE (hrow (A.at5 p) (by omega) (by decide)) hO2
  · exact h.consts.move hE (hrow (A.at6 p) (by omega) (by decide)) hO2
  · have h1 : Own w1 0 28 kAny O A.bv (A.bs.map (·.1)) := h.bks.move he (fun b hb e => ⟨hO1 b (.inl e), fun e2 => nvg (by rw [hbv] at e2; rw [e, e2])⟩) (fun _ _ h => h)
    rw [hg] at h1
    obtain ⟨B, d, rfl, _, _⟩ := ho.shape
    have h2 := (h1.set1 rfl (j := i) (x := Value.slice B xs.length d) (u := Value.slice B xs.length d) (by rw [List.length_map]; exact hil) ⟨rfl, slice_one _ _ _⟩).1
    rw [← hg] at h2
    have e1 : (A.bs.set i (Value.slice B xs.length d, xs)).map (·.1) = (A.bs.map (·.1)).set i (Value.slice B xs.length d) := by rw [List.map_set]
    show Own _ 0 _ kAny _ A.bv ((A.bs.set i (Value.slice B xs.length d, xs)).map (·.1))
    rw [e1]
    obtain ⟨css, q1, q2⟩ := h2
    exact ⟨css, q1, q2.mono fun _ _ h => h⟩
  · intro b hb
    obtain ⟨k, hk⟩ := List.getElem?_of_mem hb
    rw [List.getElem?_set] at hk
    split at hk
    · injection hk with hk
      subst hk
      refine ⟨?_, hx, hl⟩
      refine (ho.with_ (O' := PlusV O v') (fun b hb => hb)).move ((Ext.refl (fun b => b = g) w1).setO (p := ⟨g, i, none⟩) rfl v') (fun b hb e => ⟨.inl (e ▸ hgO), fun e2 => nv'g (by rw [← e]; exact e2)⟩) (fun _ _ h => h)
    · rename_i hki
      have h0 := h.ins b (List.mem_of_getElem? hk)
      exact ⟨h0.1.move hE (hrow (A.at8 p hk) (by omega) (by omega)) hO2, h0.2⟩
  · simpa using h.nb

theorem Arena.turn_bv (h : Arena w O p A S) {n g : Nat} {v' : Value} (he : Ext NoB w w1) (hv : v'.ownBlock = some g) (hg : w.heap.size ≤ g) (ho : Own w1 0 28 kAny O v' (List.replicate n (.slice none 0 0))) (hn : 16 ≤ n ∧ n ≤ 1000) :
    Arena (w1.setCell ⟨p, 7, none⟩ v') (PlusV O v') p { A with bv := v', bs := List.replicate n (.slice none 0 0, []) } S ∧ Ext (fun b => b = p) w (w1.setCell ⟨p, 7, none⟩ v') := by
  have hE : Ext (fun b => b = p) w (w1.setCell ⟨p, 7, none⟩ v') := (he.no (O := fun b => b = p)).setO (p := ⟨p, 7, none⟩) rfl v'
  have hpl := h.pl
  have hrow : ∀ {j : Nat} {u : Value}, (A.own p)[j]? = some u.ownBlock → j ≠ 0 → ∀ b, b < w.heap.size → b = p → O b ∧ u.ownBlock ≠ some b := fun hj h0 b hb e => ⟨e ▸ h.po, fun e2 => h.ne (Arena.at0 A p) hj (Ne.symm h0) rfl (by rw [e2, e])⟩
  have hO2 : ∀ b, b < w.heap.size → PlusV O v' b → O b := fun b hb h' => h'.elim id fun e => by
    rw [hv] at e
    injection e with e
    omega
  have hcell : ∀ {k : Nat} {u : Value}, k ≠ 7 → w.cell? ⟨p, k, none⟩ = some u → (w1.setCell ⟨p, 7, none⟩ v').cell? ⟨p, k, none⟩ = some u := fun hk hu => by
    rw [World.cell?_setCell_other _ _ _ _ (by intro e; injection e with e1 e2; omega)]
    exact he.cell hu (fun h => h)
  have hcell7 : (w1.setCell ⟨p, 7, none⟩ v').cell? ⟨p, 7, none⟩ = some v' := by
    have h0 : w1.cell? ⟨p, 7, none⟩ = some A.bv := he.cell h.c7 (fun h => h)
    go_simp
  have hown' : ({ A with bv := v', bs := List.replicate n (.slice none 0 0, []) } : AV).own p = (A.own p).take 7 ++ v'.ownBlock :: List.replicate n none := by
    simp [AV.own, Value.ownBlock]
  have hmem : ∀ b, some b ∈ (A.own p).take 7 ++ v'.ownBlock :: List.replicate n none → some b ∈ A.own p ∨ v'.ownBlock = some b := by
    intro b hb
    rcases List.mem_append.1 hb with hb | hb
    · exact .inl (List.mem_of_mem_take hb)
    · rcases List.mem_cons.1 hb with hb | hb
      · exact .inr hb.symm
      · have := (List.mem_replicate.1 hb).2
        cases this
  refine ⟨⟨?_, ?_, ?_, hcell (by decide) h.c0, hcell (by decide) h.c1, hcell (by decide) h.c2, hcell (by decide) h.c3, hcell (by decide) h.c4, hcell (by decide) h.c5, hcell (by decide) h.c6, hcell7, fun j => ?_, ?_, ?_, ?_, ?_, ?_, ?_, ?_, ?_, ?_⟩, hE⟩
  · rintro b (hb | hb)
    · exact Nat.lt_of_lt_of_le (h.old b hb) hE.size
    · have := (ho.base hb).2
      simpa [World.setCell] using this
  · intro b hb
    rw [AV.mo, hown'] at hb
    exact (hmem b hb).imp (h.mo b) id
  · rw [hown', Sep, List.pairwise_append]
    refine ⟨h.sep.sublist (List.take_sublist _ _), ?_, ?_⟩
    · rw [List.pairwise_cons]
      refine ⟨fun a ha => .inr fun e => ?_, ?_⟩
      · rw [(List.mem_replicate.1 ha).2, hv] at e
        cases e
      · exact List.pairwise_replicate.2 (.inr (.inl rfl))
    · intro a ha b hb
      rcases a with _ | a
      · exact .inl rfl
      · refine .inr fun e => ?_
        have hal := h.lt (List.mem_of_mem_take ha)
        rcases List.mem_cons.1 hb with hb | hb
        · rw [hv] at hb
          rw [hb] at e
          injection e with e
          omega
        · rw [(List.mem_replicate.1 hb).2] at e
          cases e
  · rw [World.frozen?_setCell]
    exact (he.frozen h.pl (fun h => h)).trans (h.fz j)
  · exact h.keys.ext hE (fun e => h.ne (Arena.at0 A p) (Arena.at1 A p) (by decide) rfl (by rw [e]))
  · exact h.sorts.move hE (hrow (A.at2 p) (by decide)) hO2
  · exact h.funs.move hE (hrow (A.at3 p) (by decide)) hO2
  · exact h.terms.move hE (hrow (A.at4 p) (by decide)) hO2
  · exact h.ofs.move hE (hrow (A.at5 p) (by decide)) hO2
  · exact h.consts.move hE (hrow (A.at6 p) (by decide)) hO2
  · have e1 : (List.replicate n ((Value.slice none 0 0 : Value), ([] : List Int))).map (·.1) = List.replicate n (.slice none 0 0) := by simp
    show Own _ 0 _ kAny _ v' ((List.replicate n ((Value.slice none 0 0 : Value), ([] : List Int))).map (·.1))
    rw [e1]
    refine (ho.with_ (O' := PlusV O v') (fun b hb => hb)).move ((Ext.refl (fun b => b = p) w1).setO (p := ⟨p, 7, none⟩) rfl v') (fun b hb e => ⟨.inl (e ▸ h.po), fun e2 => ?_⟩) (fun _ _ h => h)
    rw [hv, e] at e2
    injection e2 with e2
    omega
  · intro b hb
    have := (List.mem_replicate.1 hb).2
    subst this
    exact ⟨Own.nil _ _ _ _, fun x (hx : x ∈ ([] : List Int)) => by simp at hx, Nat.zero_le _⟩
  · simpa using hn
end
end Go.Proofs.YtfpmapbimhdafaaGreatDoor
