/- An arena of the reference as it lies in memory. Contracts: the reference's arena: a new one; whether a term is a constant. Contracts: a sort's place in the reference's arena. Contracts: a function's place in the reference's arena. Contracts: are two terms one, for the reference. -/
import Derived.Test.YtfpmapbimhdafaaGreatDoorPI
namespace Go.Proofs.YtfpmapbimhdafaaGreatDoor
open Go.RowKit
set_option linter.unusedVariables false
set_option linter.unusedSimpArgs false

/-- An arena's content. -/
structure RSt where
  sorts : List Srt
  funs : List Fun
  terms : List Term
  ofs : List Int
/-- The values of an arena's cells. -/
structure RV where
  sv : Value
  fv : Value
  tv : Value
  ov : Value
def RV.own (A : RV) (p : Nat) : List (Option Nat) := [some p, A.sv.ownBlock, A.fv.ownBlock, A.tv.ownBlock, A.ov.ownBlock]
def RV.mo (A : RV) (p : Nat) : Nat → Prop := fun b => some b ∈ A.own p
structure RA (w : World) (O : Nat → Prop) (p : Nat) (A : RV) (S : RSt) : Prop where
  old : OldO O w
  mo : ∀ b, A.mo p b → O b
  sep : Sep (A.own p)
  c0 : w.cell? ⟨p, 0, none⟩ = some A.sv
  c1 : w.cell? ⟨p, 1, none⟩ = some A.fv
  c2 : w.cell? ⟨p, 2, none⟩ = some A.tv
  c3 : w.cell? ⟨p, 3, none⟩ = some A.ov
  c4 : w.cell? ⟨p, 4, none⟩ = some (.int .i64 1048576)
  fz : ∀ j, w.frozen? ⟨p, j, none⟩ = false
  sorts : Own w 0 74 kSrt O A.sv S.sorts
  funs : Own w 0 71 kFun O A.fv S.funs
  terms : Own w 0 63 kTerm O A.tv S.terms
  ofs : Own w 0 3 kInt O A.ov S.ofs
section
variable {w w' w1 : World} {O O1 O' : Nat → Prop} {p : Nat} {A : RV} {S : RSt}
theorem RA.po (h : RA w O p A S) : O p := h.mo p (List.mem_cons_self ..)
theorem RA.pl (h : RA w O p A S) : p < w.heap.size := cell_lt h.c0
theorem RV.mo_p (A : RV) (p : Nat) : A.mo p p := List.mem_cons_self ..
theorem RV.at0 (A : RV) (p : Nat) : (A.own p)[0]? = some (some p) := rfl
theorem RV.at1 (A : RV) (p : Nat) : (A.own p)[1]? = some A.sv.ownBlock := rfl
theorem RV.at2 (A : RV) (p : Nat) : (A.own p)[2]? = some A.fv.ownBlock := rfl
theorem RV.at3 (A : RV) (p : Nat) : (A.own p)[3]? = some A.tv.ownBlock := rfl
theorem RV.at4 (A : RV) (p : Nat) : (A.own p)[4]? = some A.ov.ownBlock := rfl
theorem RV.mem (A : RV) (p : Nat) {i b : Nat} (h : (A.own p)[i]? = some (some b)) : A.mo p b := List.mem_of_getElem? h
theorem RA.ne (h : RA w O p A S) {i j : Nat} {x y : Option Nat} (hi : (A.own p)[i]? = some x) (hj : (A.own p)[j]? = some y) (hij : i ≠ j) {b : Nat} (hx : x = some b) : y ≠ some b := fun hy => hij (h.sep.ne (hx ▸ hi) (hy ▸ hj))
theorem RA.lt (h : RA w O p A S) {b : Nat} (hb : some b ∈ A.own p) : b < w.heap.size := h.old b (h.mo b hb)
theorem RA.move (h : RA w O p A S) (he : Ext O1 w w') (h1 : ∀ b, b < w.heap.size → O1 b → O b ∧ ¬ A.mo p b) (h2 : ∀ b, b < w.heap.size → O' b → O b) (h3 : ∀ b, A.mo p b → O' b) (h4 : OldO O' w') : RA w' O' p A S := by
  have np : ¬ O1 p := fun hp => (h1 p h.pl hp).2 (A.mo_p p)
  have hv : ∀ {i : Nat} {v : Value}, (A.own p)[i]? = some v.ownBlock → ∀ b, b < w.heap.size → O1 b → O b ∧ v.ownBlock ≠ some b := fun hi b hb hO => ⟨(h1 b hb hO).1, fun e => (h1 b hb hO).2 (A.mem p (e ▸ hi))⟩
  exact ⟨h4, h3, h.sep, he.cell h.c0 np, he.cell h.c1 np, he.cell h.c2 np, he.cell h.c3 np, he.cell h.c4 np, fun j => (he.frozen h.pl np).trans (h.fz j),
    h.sorts.move he (hv (A.at1 p)) h2, h.funs.move he (hv (A.at2 p)) h2, h.terms.move he (hv (A.at3 p)) h2, h.ofs.move he (hv (A.at4 p)) h2⟩
theorem RA.ext (h : RA w O p A S) (he : Ext NoB w w') : RA w' O p A S := h.move he (fun _ _ h => h.elim) (fun _ _ h => h) h.mo (h.old.ext he)
theorem RA.gr_turn (h : RA w O p A S) {i g : Nat} {v v' : Value} (hi : (A.own p)[i]? = some v.ownBlock) (hg : O g) {w' : World} (he : Ext (fun b => v.ownBlock = some b ∨ b = g) w w') (hv : v'.ownBlock = v.ownBlock ∨ ∃ g, v'.ownBlock = some g ∧ w.heap.size ≤ g) : Gr O w (PlusV O v') w' :=
  ⟨he.mono fun b hb h' => h'.elim (fun e => h.mo b (A.mem p (i := i) (by rw [hi, e]))) (fun e => e ▸ hg), fun b hb h' => h'.elim id fun e => by
    rcases hv with hv | ⟨g, hg, hgl⟩
    · exact h.mo b (A.mem p (i := i) (by rw [hi, ← hv, e]))
    · rw [hg] at e
      injection e with e
      omega⟩

theorem RA.turn_sv (h : RA w O p A S) {v' : Value} {xs : List Srt} (he : Ext (fun b => A.sv.ownBlock = some b) w w1) (hv : v'.ownBlock = A.sv.ownBlock ∨ ∃ g, v'.ownBlock = some g ∧ w.heap.size ≤ g) (ho : Own w1 0 74 kSrt O v' xs) :
    RA (w1.setCell ⟨p, 0, none⟩ v') (PlusV O v') p { A with sv := v' } { S with sorts := xs } ∧ Ext (fun b => A.sv.ownBlock = some b ∨ b = p) w (w1.setCell ⟨p, 0, none⟩ v') := by
  have np : ¬ A.sv.ownBlock = some p := fun e => h.ne (A.at1 p) (A.at0 p) (by decide) e rfl
  have hpl : p < w1.heap.size := Nat.lt_of_lt_of_le h.pl he.size
  have hE : Ext (fun b => A.sv.ownBlock = some b ∨ b = p) w (w1.setCell ⟨p, 0, none⟩ v') := (he.mono fun b _ hb => .inl hb).setO (p := ⟨p, 0, none⟩) (.inr rfl) v'
  have hO1 : ∀ b, (A.sv.ownBlock = some b ∨ b = p) → O b := fun b hb => hb.elim (fun e => h.mo b (A.mem p (i := 1) (by rw [A.at1 p, e]))) (fun e => e ▸ h.po)
  have hrow : ∀ {i : Nat} {v : Value}, (A.own p)[i]? = some v.ownBlock → i ≠ 1 → i ≠ 0 → ∀ b, b < w.heap.size → (A.sv.ownBlock = some b ∨ b = p) → O b ∧ v.ownBlock ≠ some b := fun hi h4 h0 b hb hO => ⟨hO1 b hO, hO.elim (fun e => h.ne (A.at1 p) hi (Ne.symm h4) e) (fun e => h.ne (A.at0 p) hi (Ne.symm h0) (by rw [e]))⟩
  have hO2 : ∀ b, b < w.heap.size → PlusV O v' b → O b := fun b hb h' => h'.elim id fun e => by
    rcases hv with hv | ⟨g, hg, hgl⟩
    · exact hO1 b (.inl (hv ▸ e))
    · rw [hg] at e
      injection e with e
      omega
  have hcell : ∀ {k : Nat} {u : Value}, k ≠ 0 → w.cell? ⟨p, k, none⟩ = some u → (w1.setCell ⟨p, 0, none⟩ v').cell? ⟨p, k, none⟩ = some u := fun hk hu => by
    rw [World.cell?_setCell_other _ _ _ _ (by intro e; injection e with e1 e2; omega)]
    exact he.cell hu np
  have hcell4 : (w1.setCell ⟨p, 0, none⟩ v').cell? ⟨p, 0, none⟩ = some v' := by
    have h0 : w1.cell? ⟨p, 0, none⟩ = some A.sv := he.cell h.c0 np
    go_simp
  refine ⟨⟨?_, ?_, ?_, ?_, ?_, ?_, ?_, ?_, fun j => ?_, ?_, ?_, ?_, ?_⟩, hE⟩
  · rintro b (hb | hb)
    · exact Nat.lt_of_lt_of_le (h.old b hb) hE.size
    · have := (ho.base hb).2
      simpa [World.setCell] using this
  · intro b hb
    rcases mem_turn (L := A.own p) (i := 1) (y := v'.ownBlock) hb with hb | hb
    · exact .inl (h.mo b hb)
    · exact .inr hb
  · exact Sep.turn (L := A.own p) (i := 1) (n := w.heap.size) h.sep (fun b hb => h.lt hb) (A.at1 p) hv
  · exact hcell4
  · exact hcell (by decide) h.c1
  · exact hcell (by decide) h.c2
  · exact hcell (by decide) h.c3
  · exact hcell (by decide) h.c4
  · rw [World.frozen?_setCell]
    exact (he.frozen h.pl np).trans (h.fz j)
  · refine (ho.with_ (O' := PlusV O v') (fun b hb => hb)).move ((Ext.refl (fun b => b = p) w1).setO (p := ⟨p, 0, none⟩) rfl v') (fun b hb e => ⟨.inl (e ▸ h.po), fun e2 => ?_⟩) (fun _ _ h => h)
    rw [e] at e2
    rcases hv with hv | ⟨g, hg, hgl⟩
    · exact np (hv ▸ e2)
    · rw [hg] at e2
      injection e2 with e2
      have := h.pl
      omega
  · exact h.funs.move hE (hrow (A.at2 p) (by decide) (by decide)) hO2
  · exact h.terms.move hE (hrow (A.at3 p) (by decide) (by decide)) hO2
  · exact h.ofs.move hE (hrow (A.at4 p) (by decide) (by decide)) hO2

theorem RA.turn_fv (h : RA w O p A S) {v' : Value} {xs : List Fun} (he : Ext (fun b => A.fv.ownBlock = some b) w w1) (hv : v'.ownBlock = A.fv.ownBlock ∨ ∃ g, v'.ownBlock = some g ∧ w.heap.size ≤ g) (ho : Own w1 0 71 kFun O v' xs) :
    RA (w1.setCell ⟨p, 1, none⟩ v') (PlusV O v') p { A with fv := v' } { S with funs := xs } ∧ Ext (fun b => A.fv.ownBlock = some b ∨ b = p) w (w1.setCell ⟨p, 1, none⟩ v') := by
  have np : ¬ A.fv.ownBlock = some p := fun e => h.ne (A.at2 p) (A.at0 p) (by decide) e rfl
  have hpl : p < w1.heap.size := Nat.lt_of_lt_of_le h.pl he.size
  have hE : Ext (fun b => A.fv.ownBlock = some b ∨ b = p) w (w1.setCell ⟨p, 1, none⟩ v') := (he.mono fun b _ hb => .inl hb).setO (p := ⟨p, 1, none⟩) (.inr rfl) v'
  have hO1 : ∀ b, (A.fv.ownBlock = some b ∨ b = p) → O b := fun b hb => hb.elim (fun e => h.mo b (A.mem p (i := 2) (by rw [A.at2 p, e]))) (fun e => e ▸ h.po)
  have hrow : ∀ {i : Nat} {v : Value}, (A.own p)[i]? = some v.ownBlock → i ≠ 2 → i ≠ 0 → ∀ b, b < w.heap.size → (A.fv.ownBlock = some b ∨ b = p) → O b ∧ v.ownBlock ≠ some b := fun hi h4 h0 b hb hO => ⟨hO1 b hO, hO.elim (fun e => h.ne (A.at2 p) hi (Ne.symm h4) e) (fun e => h.ne (A.at0 p) hi (Ne.symm h0) (by rw [e]))⟩
  have hO2 : ∀ b, b < w.heap.size → PlusV O v' b → O b := fun b hb h' => h'.elim id fun e => by
    rcases hv with hv | ⟨g, hg, hgl⟩
    · exact hO1 b (.inl (hv ▸ e))
    · rw [hg] at e
      injection e with e
      omega
  have hcell : ∀ {k : Nat} {u : Value}, k ≠ 1 → w.cell? ⟨p, k, none⟩ = some u → (w1.setCell ⟨p, 1, none⟩ v').cell? ⟨p, k, none⟩ = some u := fun hk hu => by
    rw [World.cell?_setCell_other _ _ _ _ (by intro e; injection e with e1 e2; omega)]
    exact he.cell hu np
  have hcell4 : (w1.setCell ⟨p, 1, none⟩ v').cell? ⟨p, 1, none⟩ = some v' := by
    have h0 : w1.cell? ⟨p, 1, none⟩ = some A.fv := he.cell h.c1 np
    go_simp
  refine ⟨⟨?_, ?_, ?_, ?_, ?_, ?_, ?_, ?_, fun j => ?_, ?_, ?_, ?_, ?_⟩, hE⟩
  · rintro b (hb | hb)
    · exact Nat.lt_of_lt_of_le (h.old b hb) hE.size
    · have := (ho.base hb).2
      simpa [World.setCell] using this
  · intro b hb
    rcases mem_turn (L := A.own p) (i := 2) (y := v'.ownBlock) hb with hb | hb
    · exact .inl (h.mo b hb)
    · exact .inr hb
  · exact Sep.turn (L := A.own p) (i := 2) (n := w.heap.size) h.sep (fun b hb => h.lt hb) (A.at2 p) hv
  · exact hcell (by decide) h.c0
  · exact hcell4
  · exact hcell (by decide) h.c2
  · exact hcell (by decide) h.c3
  · exact hcell (by decide) h.c4
  · rw [World.frozen?_setCell]
    exact (he.frozen h.pl np).trans (h.fz j)
  · exact h.sorts.move hE (hrow (A.at1 p) (by decide) (by decide)) hO2
  · refine (ho.with_ (O' := PlusV O v') (fun b hb => hb)).move ((Ext.refl (fun b => b = p) w1).setO (p := ⟨p, 1, none⟩) rfl v') (fun b hb e => ⟨.inl (e ▸ h.po), fun e2 => ?_⟩) (fun _ _ h => h)
    rw [e] at e2
    rcases hv with hv | ⟨g, hg, hgl⟩
    · exact np (hv ▸ e2)
    · rw [hg] at e2
      injection e2 with e2
      have := h.pl
      omega
  · exact h.terms.move hE (hrow (A.at3 p) (by decide) (by decide)) hO2
  · exact h.ofs.move hE (hrow (A.at4 p) (by decide) (by decide)) hO2

theorem RA.turn_tv (h : RA w O p A S) {v' : Value} {xs : List Term} (he : Ext (fun b => A.tv.ownBlock = some b) w w1) (hv : v'.ownBlock = A.tv.ownBlock ∨ ∃ g, v'.ownBlock = some g ∧ w.heap.size ≤ g) (ho : Own w1 0 63 kTerm O v' xs) :
    RA (w1.setCell ⟨p, 2, none⟩ v') (PlusV O v') p { A with tv := v' } { S with terms := xs } ∧ Ext (fun b => A.tv.ownBlock = some b ∨ b = p) w (w1.setCell ⟨p, 2, none⟩ v') := by
  have np : ¬ A.tv.ownBlock = some p := fun e => h.ne (A.at3 p) (A.at0 p) (by decide) e rfl
  have hpl : p < w1.heap.size := Nat.lt_of_lt_of_le h.pl he.size
  have hE : Ext (fun b => A.tv.ownBlock = some b ∨ b = p) w (w1.setCell ⟨p, 2, none⟩ v') := (he.mono fun b _ hb => .inl hb).setO (p := ⟨p, 2, none⟩) (.inr rfl) v'
  have hO1 : ∀ b, (A.tv.ownBlock = some b ∨ b = p) → O b := fun b hb => hb.elim (fun e => h.mo b (A.mem p (i := 3) (by rw [A.at3 p, e]))) (fun e => e ▸ h.po)
  have hrow : ∀ {i : Nat} {v : Value}, (A.own p)[i]? = some v.ownBlock → i ≠ 3 → i ≠ 0 → ∀ b, b < w.heap.size → (A.tv.ownBlock = some b ∨ b = p) → O b ∧ v.ownBlock ≠ some b := fun hi h4 h0 b hb hO => ⟨hO1 b hO, hO.elim (fun e => h.ne (A.at3 p) hi (Ne.symm h4) e) (fun e => h.ne (A.at0 p) hi (Ne.symm h0) (by rw [e]))⟩
  have hO2 : ∀ b, b < w.heap.size → PlusV O v' b → O b := fun b hb h' => h'.elim id fun e => by
    rcases hv with hv | ⟨g, hg, hgl⟩
    · exact hO1 b (.inl (hv ▸ e))
    · rw [hg] at e
      injection e with e
      omega
  have hcell : ∀ {k : Nat} {u : Value}, k ≠ 2 → w.cell? ⟨p, k, none⟩ = some u → (w1.setCell ⟨p, 2, none⟩ v').cell? ⟨p, k, none⟩ = some u := fun hk hu => by
    rw [World.cell?_setCell_other _ _ _ _ (by intro e; injection e with e1 e2; omega)]
    exact he.cell hu np
  have hcell4 : (w1.setCell ⟨p, 2, none⟩ v').cell? ⟨p, 2, none⟩ = some v' := by
    have h0 : w1.cell? ⟨p, 2, none⟩ = some A.tv := he.cell h.c2 np
    go_simp
  refine ⟨⟨?_, ?_, ?_, ?_, ?_, ?_, ?_, ?_, fun j => ?_, ?_, ?_, ?_, ?_⟩, hE⟩
  · rintro b (hb | hb)
    · exact Nat.lt_of_lt_of_le (h.old b hb) hE.size
    · have := (ho.base hb).2
      simpa [World.setCell] using this
  · intro b hb
    rcases mem_turn (L := A.own p) (i := 3) (y := v'.ownBlock) hb with hb | hb
    · exact .inl (h.mo b hb)
    · exact .inr hb
  · exact Sep.turn (L := A.own p) (i := 3) (n := w.heap.size) h.sep (fun b hb => h.lt hb) (A.at3 p) hv
  · exact hcell (by decide) h.c0
  · exact hcell (by decide) h.c1
  · exact hcell4
  · exact hcell (by decide) h.c3
  · exact hcell (by decide) h.c4
  · rw [World.frozen?_setCell]
    exact (he.frozen h.pl np).trans (h.fz j)
  · exact h.sorts.move hE (hrow (A.at1 p) (by decide) (by decide)) hO2
  · exact h.funs.move hE (hrow (A.at2 p) (by decide) (by decide)) hO2
  · refine (ho.with_ (O' := PlusV O v') (fun b hb => hb)).move ((Ext.refl (fun b => b = p) w1).setO (p := ⟨p, 2, none⟩) rfl v') (fun b hb e => ⟨.inl (e ▸ h.po), fun e2 => ?_⟩) (fun _ _ h => h)
    rw [e] at e2
    rcases hv with hv | ⟨g, hg, hgl⟩
    · exact np (hv ▸ e2)
    · rw [hg] at e2
      injection e2 with e2
      have := h.pl
      omega
  · exact h.ofs.move hE (hrow (A.at4 p) (by decide) (by decide)) hO2

theorem RA.turn_ov (h : RA w O p A S) {v' : Value} {xs : List Int} (he : Ext (fun b => A.ov.ownBlock = some b) w w1) (hv : v'.ownBlock = A.ov.ownBlock ∨ ∃ g, v'.ownBlock = some g ∧ w.heap.size ≤ g) (ho : Own w1 0 3 kInt O v' xs) :
    RA (w1.setCell ⟨p, 3, none⟩ v') (PlusV O v') p { A with ov := v' } { S with ofs := xs } ∧ Ext (fun b => A.ov.ownBlock = some b ∨ b = p) w (w1.setCell ⟨p, 3, none⟩ v') := by
  have np : ¬ A.ov.ownBlock = some p := fun e => h.ne (A.at4 p) (A.at0 p) (by decide) e rfl
  have hpl : p < w1.heap.size := Nat.lt_of_lt_of_le h.pl he.size
  have hE : Ext (fun b => A.ov.ownBlock = some b ∨ b = p) w (w1.setCell ⟨p, 3, none⟩ v') := (he.mono fun b _ hb => .inl hb).setO (p := ⟨p, 3, none⟩) (.inr rfl) v'
  have hO1 : ∀ b, (A.ov.ownBlock = some b ∨ b = p) → O b := fun b hb => hb.elim (fun e => h.mo b (A.mem p (i := 4) (by rw [A.at4 p, e]))) (fun e => e ▸ h.po)
  have hrow : ∀ {i : Nat} {v : Value}, (A.own p)[i]? = some v.ownBlock → i ≠ 4 → i ≠ 0 → ∀ b, b < w.heap.size → (A.ov.ownBlock = some b ∨ b = p) → O b ∧ v.ownBlock ≠ some b := fun hi h4 h0 b hb hO => ⟨hO1 b hO, hO.elim (fun e => h.ne (A.at4 p) hi (Ne.symm h4) e) (fun e => h.ne (A.at0 p) hi (Ne.symm h0) (by rw [e]))⟩
  have hO2 : ∀ b, b < w.heap.size → PlusV O v' b → O b := fun b hb h' => h'.elim id fun e => by
    rcases hv with hv | ⟨g, hg, hgl⟩
    · exact hO1 b (.inl (hv ▸ e))
    · rw [hg] at e
      injection e with e
      omega
  have hcell : ∀ {k : Nat} {u : Value}, k ≠ 3 → w.cell? ⟨p, k, none⟩ = some u → (w1.setCell ⟨p, 3, none⟩ v').cell? ⟨p, k, none⟩ = some u := fun hk hu => by
    rw [World.cell?_setCell_other _ _ _ _ (by intro e; injection e with e1 e2; omega)]
    exact he.cell hu np
  have hcell4 : (w1.setCell ⟨p, 3, none⟩ v').cell? ⟨p, 3, none⟩ = some v' := by
    have h0 : w1.cell? ⟨p, 3, none⟩ = some A.ov := he.cell h.c3 np
    go_simp
  refine ⟨⟨?_, ?_, ?_, ?_, ?_, ?_, ?_, ?_, fun j => ?_, ?_, ?_, ?_, ?_⟩, hE⟩
  · rintro b (hb | hb)
    · exact Nat.lt_of_lt_of_le (h.old b hb) hE.size
    · have := (ho.base hb).2
      simpa [World.setCell] using this
  · intro b hb
    rcases mem_turn (L := A.own p) (i := 4) (y := v'.ownBlock) hb with hb | hb
    · exact .inl (h.mo b hb)
    · exact .inr hb
  · exact Sep.turn (L := A.own p) (i := 4) (n := w.heap.size) h.sep (fun b hb => h.lt hb) (A.at4 p) hv
  · exact hcell (by decide) h.c0
  · exact hcell (by decide) h.c1
  · exact hcell (by decide) h.c2
  · exact hcell4
  · exact hcell (by decide) h.c4
  · rw [World.frozen?_setCell]
    exact (he.frozen h.pl np).trans (h.fz j)
  · exact h.sorts.move hE (hrow (A.at1 p) (by decide) (by decide)) hO2
  · exact h.funs.move hE (hrow (A.at2 p) (by decide) (by decide)) hO2
  · exact h.terms.move hE (hrow (A.at3 p) (by decide) (by decide)) hO2
  · refine (ho.with_ (O' := PlusV O v') (fun b hb => hb)).move ((Ext.refl (fun b => b = p) w1).setO (p := ⟨p, 3, none⟩) rfl v') (fun b hb e => ⟨.inl (e ▸ h.po), fun e2 => ?_⟩) (fun _ _ h => h)
    rw [e] at e2
    rcases hv with hv | ⟨g, hg, hgl⟩
    · exact np (hv ▸ e2)
    · rw [hg] at e2
      injection e2 with e2
      have := h.pl
      omega
end
end Go.Proofs.YtfpmapbimhdafaaGreatDoor

namespace Go.Proofs.YtfpmapbimhdafaaGreatDoor
open Go.RowKit
set_option linter.unusedVariables false
set_option linter.unusedSimpArgs false

def R0 : RSt := ⟨[⟨nBool, []⟩, ⟨nInt, []⟩], [], [], []⟩
theorem new_ra {w : World} :
    RA ((w.alloc (.cells #[.string nBool, .slice none 0 0, .string nInt, .slice none 0 0] 74)).alloc (.cells #[.slice (some ⟨w.heap.size, 0, none⟩) 2 2, .slice none 0 0, .slice none 0 0, .slice none 0 0, .int .i64 1048576] 84)) (fun b => b = w.heap.size ∨ b = w.heap.size + 1) (w.heap.size + 1)
      ⟨.slice (some ⟨w.heap.size, 0, none⟩) 2 2, .slice none 0 0, .slice none 0 0, .slice none 0 0⟩ R0 := by
  have hO : Own (w.alloc (.cells #[.string nBool, .slice none 0 0, .string nInt, .slice none 0 0] 74)) 0 74 kSrt (fun b => b = w.heap.size ∨ b = w.heap.size + 1) (.slice (some ⟨w.heap.size, 0, none⟩) 2 2) [⟨nBool, []⟩, ⟨nInt, []⟩] := by
    refine ⟨[[.string nBool, .slice none 0 0], [.string nInt, .slice none 0 0]], World.ownsRow_lit w _ 2 (Nat.zero_le _) (by simp [maxLen]) rfl, .cons ?_ (.cons ?_ .nil)⟩
    · exact kSrt_iff.2 ⟨_, rfl, by decide, Kd.nil_mk⟩
    · exact kSrt_iff.2 ⟨_, rfl, by decide, Kd.nil_mk⟩
  refine ⟨?_, ?_, ?_, by go_simp, by go_simp, by go_simp, by go_simp, by go_simp, fun j => by go_simp, hO.ext ((Ext.refl _ _).alloc _), Own.nil _ _ _ _, Own.nil _ _ _ _, Own.nil _ _ _ _⟩
  · rintro b (rfl | rfl) <;> simp <;> omega
  · intro b hb
    simp only [RV.mo, RV.own, Value.ownBlock, List.mem_cons, Option.some.injEq, reduceCtorEq, false_or, List.not_mem_nil, or_false] at hb
    rcases hb with rfl | rfl
    · exact .inr rfl
    · exact .inl rfl
  · refine List.pairwise_cons.2 ⟨?_, List.pairwise_cons.2 ⟨?_, List.pairwise_cons.2 ⟨fun _ _ => .inl rfl, List.pairwise_cons.2 ⟨fun _ _ => .inl rfl, List.pairwise_cons.2 ⟨fun _ _ => .inl rfl, .nil⟩⟩⟩⟩⟩
    all_goals
      intro a ha
      refine .inr (fun e => ?_)
      subst e
      simp only [Value.ownBlock, List.mem_cons, Option.some.injEq, reduceCtorEq, false_or, or_false, List.not_mem_nil] at ha
      try omega

set_option maxRecDepth 100000 in
set_option maxHeartbeats 1000000 in
theorem c_rNew (w : World) : Calls Tryz.prog 24 #[.int .i64 1048576] w fun e w' => ∃ p A O, e = .returned (ptr p) ∧ RA w' O p A R0 ∧ Gr NoB w O w' := by
  go_enter Tryz.func24, Tryz.ntmps24
  go_wp2_with fail
  go_ret
  refine ⟨_, _, _, rfl, new_ra, ((Ext.refl _ _).alloc _).alloc _, ?_⟩
  rintro b hb (rfl | rfl) <;> omega

/-! Constants. -/
theorem consts_take {terms : List Term} : ∀ {n i : Nat}, i < n → n ≤ terms.length → rdB (constsTo terms n) i = rdB (constsTo terms (i + 1)) i
  | 0, _, h, _ => by omega
  | n + 1, i, h, hn => by
    by_cases e : i = n
    · subst e; rfl
    · obtain ⟨t, ht⟩ := at_some (show n < terms.length by omega)
      rw [← consts_take (n := n) (by omega) (by omega), constsTo_succ ht, rdB, rdB, List.getD_eq_getElem?_getD, List.getD_eq_getElem?_getD, List.getElem?_append_left (by rw [constsTo_len (by omega)]; omega)]
theorem consts_at {terms : List Term} {n i : Nat} (h : i < n) (hn : n ≤ terms.length) {t : Term} (ht : terms[i]? = some t) : rdB (constsTo terms n) i = constT (constsTo terms i) t := by
  rw [consts_take h hn, constsTo_succ ht, rdB, List.getD_eq_getElem?_getD, List.getElem?_append_right (by rw [constsTo_len (by omega)]; omega), constsTo_len (by omega), Nat.sub_self]
  rfl
/-- A term's kids stand ahead of it. -/
def BackOk (terms : List Term) : Prop := ∀ (k : Nat) (t : Term), terms[k]? = some t → ∀ j, j < t.kids.length → 0 ≤ rdI t.kids j ∧ rdI t.kids j < k

set_option maxRecDepth 100000 in
set_option maxHeartbeats 2000000 in
theorem c_Constant {O : Nat → Prop} {p : Nat} {A : RV} {S : RSt} (hk : BackOk S.terms) : ∀ (n i : Nat) (w : World), i < n → RA w O p A S → i < S.terms.length →
    Calls Tryz.prog 79 #[ptr p, .int .i64 (i : Int)] w fun e w' => e = .returned (.bool (rdB (constsTo S.terms S.terms.length) i)) ∧ Ext NoB w w' := by
  intro n
  induction n with
  | zero => intro i w h; omega
  | succ n ih =>
    intro i w hi h hlt
    obtain ⟨t, ht⟩ := at_some hlt
    have hm := h.terms.max
    obtain ⟨g, c, hT⟩ := h.terms.form (by omega)
    have htt := h.terms
    have c2 := h.c2
    rw [hT] at htt c2
    obtain ⟨B, d, ⟨x0, x1, x2, x3⟩, hK, w0, w1, w3⟩ := htt.term_at ht
    have HK := Lib.hid (hk i t ht)
    have HC := Lib.hid (consts_at hlt (Nat.le_refl _) ht)
    have H := Lib.hid h
    have r1 : (0 : Int) ≤ (i : Int) := by omega
    have r2 : (i : Int) < (S.terms.length : Int) := by omega
    have hd : decide ((S.terms.length : Int) ≤ (i : Int)) = false := by rw [decide_eq_false_iff_not]; omega
    have hd2 : decide (S.terms.length ≤ i) = false := by rw [decide_eq_false_iff_not]; omega
    have hE := (Ext.refl NoB w).alloc (Obj.cells #[.int .i64 t.op, .int .i64 t.fn, .slice B t.kids.length d, .string t.num] 63)
    clear hk h htt hT
    unfold ptr at *
    by_cases o18 : t.op = 18
    · by_cases o1 : t.kids.length = 1
      · have HC2 : Hid (rdB (constsTo S.terms S.terms.length) i = rdB (constsTo S.terms S.terms.length) (kidN t 0)) := Lib.hid (by
          have h0 := HK.out 0 (by omega)
          have hkn : (kidN t 0 : Int) = rdI t.kids 0 := by unfold kidN; omega
          rw [HC.out, constT, decide_eq_true o18, decide_eq_true o1, decide_eq_false (by omega), consts_take (n := S.terms.length) (i := kidN t 0) (by omega) (Nat.le_refl _), ← consts_take (n := i) (by omega) (by omega)]
          rfl)
        have hK2 := hK
        obtain ⟨B', d', hv, -, -, hK3⟩ := Kd.one_slice hK2
        injection hv with e1 e2 e3
        subst e1
        clear e2 e3 hK2
        obtain ⟨b, off, rfl, _, y, _⟩ := ints_at hK3 (show 0 < t.kids.length by omega)
        have h0 := HK.out 0 (by omega)
        have hkn : rdI t.kids 0 = (kidN t 0 : Int) := by unfold kidN; omega
        rw [hkn] at y h0
        rw [Nat.add_zero] at y
        replace y := hE.cell y (fun h => h)
        have IH : Hid (∀ w', Ext NoB w w' → Calls Tryz.prog 79 #[.pointer (some ⟨p, 0, none⟩), .int .i64 (kidN t 0 : Int)] w' fun e w'' => e = .returned (.bool (rdB (constsTo S.terms S.terms.length) (kidN t 0))) ∧ Ext NoB w' w'') := Lib.hid (fun w' he => ih _ w' (by omega) (H.out.ext he) (by omega))
        rw [o18] at x0
        rw [o1] at x2
        rw [o18, o1] at hE
        rw [o18, o1] at y
        rw [HC2.out]
        clear hK hK3 o18 o1 HK hkn ih HC HC2 h0
        generalize kidN t 0 = kk at *
        go_enter Tryz.func79, Tryz.ntmps79
        go_wp2_with fail
        refine (IH.out _ hE).mono ?_
        rintro e w2 ⟨rfl, he⟩
        have HE := Lib.hid (hE.trans he)
        clear he hE
        go_wp2_with fail
        go_ret
        exact ⟨rfl, HE.out⟩
      · have HC2 : Hid (rdB (constsTo S.terms S.terms.length) i = false) := Lib.hid (by rw [HC.out, constT, decide_eq_true o18, decide_eq_false o1, decide_eq_false (by omega)]; rfl)
        have hl1 : ((t.kids.length : Int) == 1) = false := by rw [beq_eq_false_iff_ne]; omega
        rw [o18] at x0 hE
        clear o18 o1 hK HK
        go_enter Tryz.func79, Tryz.ntmps79
        go_wp2_with fail
        go_ret
        exact ⟨retB HC2.out.symm, hE⟩
    · by_cases o4 : t.op = 4
      · have HC2 : Hid (rdB (constsTo S.terms S.terms.length) i = true) := Lib.hid (by rw [HC.out, constT, decide_eq_true o4]; rfl)
        rw [o4] at x0 hE
        clear o18 o4 hK HK
        go_enter Tryz.func79, Tryz.ntmps79
        go_wp2_with fail
        go_ret
        exact ⟨retB HC2.out.symm, hE⟩
      · have HC2 : Hid (rdB (constsTo S.terms S.terms.length) i = false) := Lib.hid (by rw [HC.out, constT, decide_eq_false o4, decide_eq_false o18]; rfl)
        have e18 : (t.op == 18) = false := by rw [beq_eq_false_iff_ne]; exact o18
        have e4 : (t.op == 4) = false := by rw [beq_eq_false_iff_ne]; exact o4
        clear o18 o4 hK HK
        go_enter Tryz.func79, Tryz.ntmps79
        go_wp2_with fail
        go_ret
        exact ⟨retB HC2.out.symm, hE⟩
end Go.Proofs.YtfpmapbimhdafaaGreatDoor

namespace Go.Proofs.YtfpmapbimhdafaaGreatDoor
open Go.RowKit
set_option linter.unusedVariables false
set_option linter.unusedSimpArgs false

theorem bytes_beq {a b : ByteArray} (h : a ≠ b) : (a == b) = false := by
  cases h' : a == b with
  | false => rfl
  | true => exact absurd ((bEqB a b).1 h') h
theorem bytes_beq' (a : ByteArray) : (a == a) = true := (bEqB a a).2 rfl
/-- Of the first k all are in range. -/
def RangeTo (n : Nat) (xs : List Int) (k : Nat) : Prop := ∀ j, j < k → 0 ≤ rdI xs j ∧ rdI xs j < n
theorem RangeTo.step {n : Nat} {xs : List Int} {k : Nat} (h : RangeTo n xs k) (h1 : 0 ≤ rdI xs k) (h2 : rdI xs k < n) : RangeTo n xs (k + 1) := fun j hj => by
  by_cases e : j = k
  · subst e; exact ⟨h1, h2⟩
  · exact h j (by omega)
/-- Of the first k none is this one. -/
def NoneTo (l : List Srt) (name : ByteArray) (args : List Int) (k : Nat) : Prop := ∀ (j : Nat) (x : Srt), j < k → l[j]? = some x → ¬ (x.name = name ∧ x.args = args)
theorem NoneTo.step {l : List Srt} {name : ByteArray} {args : List Int} {k : Nat} {s : Srt} (h : NoneTo l name args k) (hs : l[k]? = some s) (hn : ¬ (s.name = name ∧ s.args = args)) : NoneTo l name args (k + 1) := fun j x hj hx => by
  by_cases e : j = k
  · subst e
    obtain rfl := Option.some.inj (hs.symm.trans hx)
    exact hn
  · exact h j x (by omega) hx
/-- What comes of a sort. -/
def SortRes (S : RSt) (name : ByteArray) (args : List Int) (a k : Int) (S' : RSt) : Prop :=
  k = 0 → ArgsOk S.sorts.length args ∧ ((∃ (i : Nat) (s : Srt), a = i ∧ S.sorts[i]? = some s ∧ s.name = name ∧ s.args = args ∧ S' = S) ∨ (a = S.sorts.length ∧ (∀ x ∈ S.sorts, ¬ (x.name = name ∧ x.args = args)) ∧ S' = { S with sorts := S.sorts ++ [⟨name, args⟩] }))

section
variable {w : World} {O : Nat → Prop} {p : Nat} {A : RV} {S : RSt}
set_option maxRecDepth 100000 in
set_option maxHeartbeats 4000000 in
theorem c_rSort (h : RA w O p A S) (name : ByteArray) (va : Value) (args : List Int) (ha : kInts.one w O args va) (hn : name.size ≤ maxLen) (hsl : S.sorts.length ≤ 1000) :
    Calls Tryz.prog 25 #[ptr p, .string name, va] w fun e w' => ∃ (a k : Int), e = .returned (.tuple #[.int .i64 a, .int .i64 k]) ∧ ∃ A' O' S', RA w' O' p A' S' ∧ Gr O w O' w' ∧ SortRes S name args a k S' := by
  have ha0 := ha
  obtain ⟨V, d, rfl, hl, hm, hr⟩ := Kd.one_slice ha
  have HR := Lib.hid hr
  have HV := Lib.hid ha0
  have H := Lib.hid h
  have c0 := h.c0
  obtain ⟨T, tc, hT, _, _⟩ := h.sorts.shape
  rw [hT] at c0
  have HT := Lib.hid hT
  unfold maxLen at hm
  have hmm : args.length ≤ 9223372036854775807 := by omega
  clear h ha ha0 hr hT hm
  unfold ptr
  go_enter Tryz.func25, Tryz.ntmps25
  go_wp2_with fail
  go_loopw [8] (fun i wr => ∃ k : Nat, k ≤ args.length ∧ i = .int .i64 k ∧ Hid (RangeTo S.sorts.length args k) ∧ ∃ n, wr = w.drewN n) (fun i _ => args.length - (intOf i).toNat)
  case atStart => exact ⟨0, Nat.zero_le _, rfl, Lib.hid (fun j hj => by omega), 0, rfl⟩
  case round =>
    obtain ⟨k, hk, rfl, HK, n, rfl⟩ := hrel
    by_cases hlt : k < args.length
    · obtain ⟨b, off, rfl, _, c1, _⟩ := ints_at HR.out hlt
      by_cases h1 : rdI args k < 0
      · have hb1 : decide (rdI args k < 0) = true := decide_eq_true h1
        clear h1
        generalize rdI args k = x at *
        go_wp2_with fail
        go_quiet (fail)
        go_wp2_with fail
        go_ret2
        exact ⟨_, _, rfl, A, O, S, H.out.ext (Dr.nn _ _ _).ext, Gr.of (Dr.nn _ _ _).ext, fun e => by cases e⟩
      · have hb1 : decide (rdI args k < 0) = false := decide_eq_false h1
        by_cases h2 : (S.sorts.length : Int) ≤ rdI args k
        · have hb2 : decide ((S.sorts.length : Int) ≤ rdI args k) = true := decide_eq_true h2
          clear h1 h2
          generalize rdI args k = x at *
          go_wp2_with fail
          go_quiet (fail)
          go_wp2_with fail
          go_ret2
          exact ⟨_, _, rfl, A, O, S, H.out.ext (Dr.nn _ _ _).ext, Gr.of (Dr.nn _ _ _).ext, fun e => by cases e⟩
        · have hb2 : decide ((S.sorts.length : Int) ≤ rdI args k) = false := decide_eq_false h2
          have HK2 := Lib.hid (HK.out.step (by omega) (by omega))
          clear h1 h2
          generalize rdI args k = x at *
          go_wp2_with fail
          go_quiet (fail)
          go_wp2_with fail
          exact ⟨⟨k + 1, by omega, by go_num, HK2, _, rfl⟩, by simp [intOf]; omega⟩
    · obtain rfl : k = args.length := by omega
      clear hk hlt
      go_wp2_with fail
      go_loopw [9] (fun i wr => ∃ k : Nat, k ≤ S.sorts.length ∧ i = .int .i64 k ∧ Hid (NoneTo S.sorts name args k) ∧ ∃ n, wr = w.drewN n) (fun i _ => S.sorts.length - (intOf i).toNat)
      case atStart => exact ⟨0, Nat.zero_le _, rfl, Lib.hid (fun j x hj => by omega), _, rfl⟩
      case round =>
        obtain ⟨k, hk, rfl, HN, n', rfl⟩ := hrel
        by_cases hlt : k < S.sorts.length
        · obtain ⟨s, hs⟩ := at_some hlt
          obtain ⟨g, c, hv⟩ := H.out.sorts.form (by omega)
          obtain rfl : T = some ⟨g, 0, none⟩ := by
            have := HT.out.symm.trans hv
            injection this
          have hso := H.out.sorts
          rw [hv] at hso
          obtain ⟨Sa, sd, ⟨x0, x1⟩, hK, _⟩ := hso.srt_at hs
          have HKs := Lib.hid hK
          have HS := Lib.hid hs
          clear hv hso hK hs
          by_cases e : s.name = name
          · have HE := Lib.hid e
            have q3 : (name == name) = true := bytes_beq' name
            rw [e] at x0
            clear e
            go_wp2_with fail
            refine (c_SameInts _ _ s.args args _ O (kInts.oneExt HKs.out (Dr.n _ _).ext) (kInts.oneExt HV.out (Dr.n _ _).ext)).mono ?_
            rintro e w2 ⟨rfl, hd⟩
            obtain ⟨m, rfl⟩ := hd
            by_cases ea : s.args = args
            · have hea : decide (s.args = args) = true := decide_eq_true ea
              have HEA := Lib.hid ea
              rw [hea]
              clear ea hea
              go_wp2_with fail
              go_ret2
              refine ⟨_, _, rfl, A, O, S, H.out.ext (Dr.n _ _).ext, Gr.of (Dr.n _ _).ext, fun _ => ⟨HK.out, .inl ⟨k, s, rfl, HS.out, HE.out, HEA.out, rfl⟩⟩⟩
            · have hea : decide (s.args = args) = false := decide_eq_false ea
              have HN2 := Lib.hid (HN.out.step HS.out (fun h => ea h.2))
              rw [hea]
              clear ea hea
              go_wp2_with fail
              exact ⟨⟨k + 1, by omega, by go_num, HN2, _, rfl⟩, by simp [intOf]; omega⟩
          · have q3 : (s.name == name) = false := bytes_beq e
            have q4 := ba_ne e
            have q5 : ¬ s.name.toList = name.toList := fun h => e (ba_inj h)
            have HN2 := Lib.hid (HN.out.step HS.out (fun h => e h.1))
            clear e
            go_wp2_with fail
            exact ⟨⟨k + 1, by omega, by go_num, HN2, _, rfl⟩, by simp [intOf]; omega⟩
        · obtain rfl : k = S.sorts.length := by omega
          have HNO : Hid (∀ x ∈ S.sorts, ¬ (x.name = name ∧ x.args = args)) := Lib.hid (fun x hx => by
            obtain ⟨j, hj⟩ := List.getElem?_of_mem hx
            exact HN.out j x (List.getElem?_eq_some_iff.1 hj).1 hj)
          have HKA : Hid (ArgsOk S.sorts.length args) := Lib.hid HK.out
          clear hk hlt
          have HW := Lib.hid (H.out.ext (Dr.n w n').ext)
          have HG := Lib.hid (Gr.of (O := O) (Dr.n w n').ext)
          have hx : kSrt.rep (w.drewN n') (PlusV O (.slice T S.sorts.length tc)) ⟨name, args⟩ [.string name, .slice V args.length d] := kSrt_iff.2 ⟨_, rfl, hn, kInts.oneKeep HV.out (Dr.n w n').ext (fun b _ h => h.elim id fun e => H.out.mo b (RV.mem A p (i := 1) (by rw [RV.at1, HT.out, e])))⟩
          have HX := Lib.hid hx
          have c0' : (w.drewN n').cell? ⟨p, 0, none⟩ = some (.slice T S.sorts.length tc) := (Dr.n w n').ext.cell c0 (fun h : NoB _ => h)
          have ho : Own (w.drewN n') 0 74 kSrt O (.slice T S.sorts.length tc) S.sorts := by have := HW.out.sorts; rwa [HT.out] at this
          have HO := Lib.hid ho
          clear hx ho c0 HK HN HR
          generalize w.drewN n' = wr at *
          go_wp2_with (at_builtin; refine wpl_append1H kSrt (by decide) wr.heap.size (by rfl) rfl (.tmp 69) (.tmp 73) 22 rfl 0 74 _ 40 Tryz.underlying22 info_Sort rfl O (.slice T S.sorts.length tc) rfl S.sorts HO.out rfl ⟨name, args⟩ [_, _] HX.out HW.out.old (by omega) (by omega) (Nat.zero_le _) ?_; intro v2 w2 hO2 hE2 hat2; (obtain ⟨T2, c2, hv, -, -⟩ := hO2.shape); rw [List.length_append, List.length_singleton] at hv; subst hv; (have HO2 := Lib.hid hO2); (have HE2 : Hid (Ext (fun b => A.sv.ownBlock = some b) wr w2) := Lib.hid (by rw [HT.out]; exact hE2)); (have HV2 : Hid _ := Lib.hid (by have := hat2; rwa [← HT.out] at this)); (have X1 := HE2.out.cell HW.out.c0 (fun e => HW.out.ne (RV.at1 _ p) (RV.at0 _ p) (by decide) e rfl)); (have F1 := (HE2.out.frozen HW.out.pl (fun e => HW.out.ne (RV.at1 _ p) (RV.at0 _ p) (by decide) e rfl)).trans (HW.out.fz 0)); clear hO2 hE2 hat2)
          go_ret2
          have ht := HW.out.turn_sv HE2.out HV2.out HO2.out
          exact ⟨_, _, rfl, _, _, _, ht.1, HG.out.trans (HW.out.gr_turn (RV.at1 _ p) HW.out.po ht.2 HV2.out), fun _ => ⟨HKA.out, .inr ⟨by simp, HNO.out, rfl⟩⟩⟩
end
end Go.Proofs.YtfpmapbimhdafaaGreatDoor

namespace Go.Proofs.YtfpmapbimhdafaaGreatDoor
open Go.RowKit
set_option linter.unusedVariables false
set_option linter.unusedSimpArgs false

section
variable {w : World} {O : Nat → Prop} {p : Nat} {A : RV} {S : RSt}

set_option maxRecDepth 100000 in
set_option maxHeartbeats 4000000 in
theorem c_rFun (h : RA w O p A S) (f : Fun) (vf : Value) (hf : kFun.agg w O f vf) (hsl : S.sorts.length ≤ 1000) (hfl : S.funs.length ≤ 1000) (hal : f.args.length ≤ 1000) :
    Calls Tryz.prog 26 #[ptr p, vf] w fun e w' => ∃ (a k : Int), e = .returned (.tuple #[.int .i64 a, .int .i64 k]) ∧ ∃ A' O' S', RA w' O' p A' S' ∧ Gr O w O' w' ∧ (k = 0 → ArgsOk S.sorts.length f.args ∧ 0 ≤ f.result ∧ f.result < S.sorts.length ∧ S' = { S with funs := S.funs ++ [f] }) := by
  obtain ⟨B, d, rfl, hk, wn, wr⟩ := fun_open hf
  have H := Lib.hid h
  have HF := Lib.hid hf
  have HK := Lib.hid (kInts.oneKeep (O' := NoB) hk (Ext.refl O w) (fun _ _ h => h.elim))
  have c0 := h.c0
  obtain ⟨T, tc, hT, _, _⟩ := h.sorts.shape
  rw [hT] at c0
  have HT := Lib.hid hT
  clear h hf hk hT
  unfold ptr
  go_enter Tryz.func26, Tryz.ntmps26
  have hE1 : Ext NoB w ((w.alloc (.cells #[.string f.name, .slice B f.args.length d, .int .i64 f.result] 71)).alloc (.cells #[.int .i64 f.result] 3)) := ((Ext.refl _ _).alloc _).alloc _
  have HE1 := Lib.hid hE1
  clear hE1
  have HOW : Hid (Own ((w.alloc (.cells #[.string f.name, .slice B f.args.length d, .int .i64 f.result] 71)).alloc (.cells #[.int .i64 f.result] 3)) 0 3 kInt NoB (.slice (some ⟨w.heap.size + 1, 0, none⟩) 1 1) [f.result]) := Lib.hid (by
    have := World.ownsRow_lit (base := 0) (e := 3) (size := 1) (w.alloc (.cells #[.string f.name, .slice B f.args.length d, .int .i64 f.result] 71)) #[.int .i64 f.result] 1 (Nat.zero_le _) (by simp [maxLen]) rfl
    rw [World.size_alloc] at this
    exact ⟨[[.int .i64 f.result]], this, .cons ⟨rfl, wr⟩ .nil⟩)
  go_wp2_with (at_builtin; refine wpl_append kInt Nat.one_pos rfl (.tmp 10) (.tmp 12) 28 rfl 0 3 _ 8 Tryz.underlying28 info_int rfl NoB (.slice (some ⟨w.heap.size + 1, 0, none⟩) 1 1) rfl [f.result] HOW.out _ rfl f.args (kInts.oneV HK.out HE1.out (fun g hg => by injection hg with hg; show w.heap.size ≤ g; simp at hg; omega)) (by omega) (by simp only [List.length_singleton]; omega) (Nat.zero_le _) ?_; intro v1 w1 hO1 hE1 hat1; (have HO1 := Lib.hid hO1); (have HE1' := Lib.hid hE1); clear hO1 hE1 hat1)
  obtain ⟨V1, c1, hv1, hc1, _⟩ := HO1.out.shape
  rw [List.length_append, List.length_singleton] at hv1
  subst hv1
  have HE2 : Hid (Ext NoB w w1) := Lib.hid (HE1.out.then HE1'.out (fun i hi h => by have h' : some (w.heap.size + 1) = some i := h; injection h'; omega))
  have x0 : w1.cell? ⟨w.heap.size, 0, none⟩ = some (.string f.name) := HE1'.out.cell (by go_simp) (fun h => by have h' : some (w.heap.size + 1) = some w.heap.size := h; injection h'; omega)
  have x1 : w1.cell? ⟨w.heap.size, 1, none⟩ = some (.slice B f.args.length d) := HE1'.out.cell (by go_simp) (fun h => by have h' : some (w.heap.size + 1) = some w.heap.size := h; injection h'; omega)
  have x2 : w1.cell? ⟨w.heap.size, 2, none⟩ = some (.int .i64 f.result) := HE1'.out.cell (by go_simp) (fun h => by have h' : some (w.heap.size + 1) = some w.heap.size := h; injection h'; omega)
  replace c0 := HE2.out.cell c0 (fun h => h)
  have hmm : 1 + f.args.length ≤ 9223372036854775807 := by omega
  have HO1' : Hid (Own w1 0 3 kInt NoB (.slice V1 (1 + f.args.length) c1) (f.result :: f.args)) := HO1
  clear HO1 HE1 HE1' HOW
  go_loopw [7] (fun i wr => ∃ k : Nat, k ≤ 1 + f.args.length ∧ i = .int .i64 k ∧ Hid (RangeTo S.sorts.length (f.result :: f.args) k) ∧ ∃ n, wr = w1.drewN n) (fun i _ => 1 + f.args.length - (intOf i).toNat)
  case atStart => exact ⟨0, Nat.zero_le _, rfl, Lib.hid (fun j hj => by omega), 0, rfl⟩
  case round =>
    obtain ⟨k, hk, rfl, HK2, n, rfl⟩ := hrel
    by_cases hlt : k < 1 + f.args.length
    · obtain ⟨g, rfl, y, _⟩ := HO1'.out.ints (k := k) (by simp; omega)
      by_cases h1 : rdI (f.result :: f.args) k < 0
      · have hb1 : decide (rdI (f.result :: f.args) k < 0) = true := decide_eq_true h1
        clear h1
        generalize rdI (f.result :: f.args) k = x at *
        go_wp2_with fail
        go_quiet (fail)
        go_wp2_with fail
        go_ret2
        exact ⟨_, _, rfl, A, O, S, (H.out.ext HE2.out).ext (Dr.nn _ _ _).ext, (Gr.of HE2.out).trans (Gr.of (Dr.nn _ _ _).ext), fun e => by cases e⟩
      · have hb1 : decide (rdI (f.result :: f.args) k < 0) = false := decide_eq_false h1
        by_cases h2 : (S.sorts.length : Int) ≤ rdI (f.result :: f.args) k
        · have hb2 : decide ((S.sorts.length : Int) ≤ rdI (f.result :: f.args) k) = true := decide_eq_true h2
          clear h1 h2
          generalize rdI (f.result :: f.args) k = x at *
          go_wp2_with fail
          go_quiet (fail)
          go_wp2_with fail
          go_ret2
          exact ⟨_, _, rfl, A, O, S, (H.out.ext HE2.out).ext (Dr.nn _ _ _).ext, (Gr.of HE2.out).trans (Gr.of (Dr.nn _ _ _).ext), fun e => by cases e⟩
        · have hb2 : decide ((S.sorts.length : Int) ≤ rdI (f.result :: f.args) k) = false := decide_eq_false h2
          have HK3 := Lib.hid (HK2.out.step (by omega) (by omega))
          clear h1 h2
          generalize rdI (f.result :: f.args) k = x at *
          go_wp2_with fail
          go_quiet (fail)
          go_wp2_with fail
          exact ⟨⟨k + 1, by omega, by go_num, HK3, _, rfl⟩, by simp [intOf]; omega⟩
    · obtain rfl : k = 1 + f.args.length := by omega
      have HRES : Hid (ArgsOk S.sorts.length f.args ∧ 0 ≤ f.result ∧ f.result < S.sorts.length) := Lib.hid ⟨fun j hj => HK2.out (j + 1) (by omega), HK2.out 0 (by omega)⟩
      have HE6 := Lib.hid (HE2.out.trans (Dr.n w1 n).ext)
      have HA6 := Lib.hid (H.out.ext ((Ext.drew (HE6.out))))
      have HF6 := Lib.hid (kFun.aggExt HF.out (HE6.out.drew.no))
      obtain ⟨Tf, tfc, hTf, _, _⟩ := HA6.out.funs.shape
      have HTf := Lib.hid hTf
      have HST : Hid ((w1.drewN n).drew.cell? ⟨p, 1, none⟩ = some (.slice Tf S.funs.length tfc) ∧ (w1.drewN n).drew.cell? ⟨w.heap.size, 0, none⟩ = some (.string f.name) ∧ (w1.drewN n).drew.cell? ⟨w.heap.size, 1, none⟩ = some (.slice B f.args.length d) ∧ (w1.drewN n).drew.cell? ⟨w.heap.size, 2, none⟩ = some (.int .i64 f.result)) :=
        Lib.hid ⟨by have := HA6.out.c1; rw [HTf.out] at this; exact this, x0, x1, x2⟩
      clear hk hlt hTf HO1' HK2 c0 x0 x1 x2
      generalize w1.drewN n = w5 at *
      go_wp2_with fail
      refine wpM_begin (fun W => W.cell? ⟨p, 1, none⟩ = some (.slice Tf S.funs.length tfc) ∧ W.cell? ⟨w.heap.size, 0, none⟩ = some (.string f.name) ∧ W.cell? ⟨w.heap.size, 1, none⟩ = some (.slice B f.args.length d) ∧ W.cell? ⟨w.heap.size, 2, none⟩ = some (.int .i64 f.result)) [7, 10] [1, 2, 3, 4, 5, 6] (by kernel_rfl) (by kernel_rfl) (HST.out) (fun hS0 hA => ?_)
      refine wpM_free 0 rfl (by kernel_rfl) rfl (by intro w; go_simp; try rfl) ?_; (try simp only [Act.put, List.setIfInBounds_toArray, List.set_cons_zero, List.set_cons_succ])
      refine wpM_free 1 rfl (by kernel_rfl) rfl (by intro w; go_simp; try rfl) ?_; (try simp only [Act.put, List.setIfInBounds_toArray, List.set_cons_zero, List.set_cons_succ])
      refine wpM_free 2 rfl (by kernel_rfl) rfl (by intro w; go_simp; try rfl) ?_; (try simp only [Act.put, List.setIfInBounds_toArray, List.set_cons_zero, List.set_cons_succ])
      refine wpM_free 3 rfl (by kernel_rfl) rfl (by intro w; go_simp; try rfl) ?_; (try simp only [Act.put, List.setIfInBounds_toArray, List.set_cons_zero, List.set_cons_succ])
      refine wpM_take 4 hA hS0 rfl (by kernel_rfl) rfl (by intro w hs; (try dsimp only at hs); go_simp; try rfl) ?_; (try simp only [Act.put, List.setIfInBounds_toArray, List.set_cons_zero, List.set_cons_succ])
      refine wpM_take 5 hA hS0 rfl (by kernel_rfl) rfl (by intro w hs; (try dsimp only at hs); go_simp; try rfl) ?_; (try simp only [Act.put, List.setIfInBounds_toArray, List.set_cons_zero, List.set_cons_succ])
      refine wpM_only 6 rfl (by kernel_rfl) (fun K hK => ?_)
      go_simp
      refine hK.out _ _ ?_ (fun hS1 => ?_)
      · exact ⟨((Ext.refl NoB _).alloc _).cell hS0.1 id, ((Ext.refl NoB _).alloc _).cell hS0.2.1 id, ((Ext.refl NoB _).alloc _).cell hS0.2.2.1 id, ((Ext.refl NoB _).alloc _).cell hS0.2.2.2 id⟩
      clear hS0 hK K; (try simp only [Act.put, List.setIfInBounds_toArray, List.set_cons_zero, List.set_cons_succ])
      refine wpM_last 7 rfl (by kernel_rfl) (by decide) (fun K hK => ?_)
      have ho5 : Own w5.drew 0 71 kFun O (.slice Tf S.funs.length tfc) S.funs := by have := HA6.out.funs; rwa [HTf.out] at this
      have hx5 : kFun.rep w5.drew (PlusV O (.slice Tf S.funs.length tfc)) f [.string f.name, .slice B f.args.length d, .int .i64 f.result] := by
        obtain ⟨_, _, hvf, hkk, _, _⟩ := fun_open HF6.out
        injection hvf with hvf
        simp only [Array.mk.injEq, List.cons.injEq, Value.slice.injEq, and_true, true_and] at hvf
        obtain ⟨rfl, rfl⟩ := hvf
        exact kFun_iff.2 ⟨_, rfl, wn, kInts.oneKeep hkk (Ext.refl O _) (fun b hb h' => h'.elim id (fun e => HA6.out.mo b (RV.mem _ p (i := 2) (by rw [RV.at2]; exact congrArg some (HTf.out ▸ e))))), wr⟩
      have hold5 : ∀ b, O b → b < w5.drew.heap.size := HA6.out.old
      refine step_append1H kFun (by decide) w5.heap.size (by rfl) rfl (.tmp 41) (.tmp 43) 23 rfl 0 71 _ 48 Tryz.underlying23 info_Fun rfl O (.slice Tf S.funs.length tfc) rfl S.funs ho5 rfl f [_, _, _] hx5 hold5 (by omega) (by omega) (Nat.zero_le _) ?_
      intro v2 w2 hO2 hE2 hat2
      obtain ⟨T2, c2, hv, -, -⟩ := hO2.shape
      rw [List.length_append, List.length_singleton] at hv
      subst hv
      have hTb : (Value.slice Tf S.funs.length tfc).ownBlock = A.fv.ownBlock := by rw [HTf.out]
      rw [hTb] at hat2
      have HO2 := Lib.hid hO2
      have HE3 : Hid (Ext (fun b => A.fv.ownBlock = some b) w5.drew w2) := Lib.hid (hTb ▸ hE2)
      have HV2 := Lib.hid hat2
      have X3 := HE3.out.cell HA6.out.c1 (fun e => HA6.out.ne (RV.at2 _ p) (RV.at0 _ p) (by decide) e rfl)
      have F3 := (HE3.out.frozen HA6.out.pl (fun e => HA6.out.ne (RV.at2 _ p) (RV.at0 _ p) (by decide) e rfl)).trans (HA6.out.fz 1)
      clear hO2 hE2 hat2 hTb ho5 hx5 hold5
      refine hK.out _ _ ?_
      clear hK K; (try simp only [Act.put, List.setIfInBounds_toArray, List.set_cons_zero, List.set_cons_succ])
      refine wpM_free 8 rfl (by kernel_rfl) rfl (by intro w; go_simp; try rfl) ?_; (try simp only [Act.put, List.setIfInBounds_toArray, List.set_cons_zero, List.set_cons_succ])
      refine wpM_free 9 rfl (by kernel_rfl) rfl (by intro w; go_simp; try rfl) ?_; (try simp only [Act.put, List.setIfInBounds_toArray, List.set_cons_zero, List.set_cons_succ])
      refine wpM_last 10 rfl (by kernel_rfl) (by decide) (fun K hK => ?_)
      go_simp
      refine hK.out _ _ ?_
      clear hK K; (try simp only [Act.put, List.setIfInBounds_toArray, List.set_cons_zero, List.set_cons_succ])
      refine wpM_done (by kernel_rfl) ?_
      have ht := Lib.hid (HA6.out.turn_fv HE3.out HV2.out HO2.out)
      have LP := HA6.out.pl
      go_wp2_with fail
      go_ret2
      exact ⟨_, _, rfl, _, _, _, ht.out.1, ((Gr.of HE6.out).trans (Gr.of (Ext.refl NoB w5).drew)).trans (HA6.out.gr_turn (RV.at2 _ p) HA6.out.po ht.out.2 HV2.out), fun _ => ⟨HRES.out.1, HRES.out.2.1, HRES.out.2.2, rfl⟩⟩
end
end Go.Proofs.YtfpmapbimhdafaaGreatDoor

namespace Go.Proofs.YtfpmapbimhdafaaGreatDoor
open Go.RowKit
set_option linter.unusedVariables false
set_option linter.unusedSimpArgs false

set_option maxRecDepth 100000 in
set_option maxHeartbeats 2000000 in
theorem c_rSame (x y : Term) (va vb : Value) (w : World) (O : Nat → Prop) (ha : kTerm.agg w O x va) (hb : kTerm.agg w O y vb) : Calls Tryz.prog 46 #[va, vb] w fun e w' => ∃ b : Bool, e = .returned (.bool b) ∧ (b = false → x ≠ y) ∧ Ext NoB w w' := by
  obtain ⟨B, d, rfl, HK, hkm, hk⟩ := tm_open ha
  obtain ⟨C, f, rfl, HL, hkl, hl⟩ := tm_open hb
  obtain ⟨o1, f1, k1, n1⟩ := x
  obtain ⟨o2, f2, k2, n2⟩ := y
  simp only at HK HL hkm hkl ⊢
  clear ha hb hk hl
  by_cases e1 : o1 = o2
  · subst e1
    by_cases e2 : f1 = f2
    · subst e2
      by_cases e3 : n1 = n2
      · subst e3
        have q3 : (n1 == n1) = true := (bEqB _ _).2 rfl
        go_enter Tryz.func46, Tryz.ntmps46
        go_wp2_with fail
        refine (c_SameInts _ _ k1 k2 _ O (kInts.oneExt HK.out (((Ext.refl _ _).alloc _).alloc _)) (kInts.oneExt HL.out (((Ext.refl _ _).alloc _).alloc _))).mono ?_
        rintro e w1 ⟨rfl, n, rfl⟩
        generalize hb : decide (k1 = k2) = b
        have HB := Lib.hid hb
        clear hb
        go_wp2_with fail
        go_ret
        exact ⟨b, rfl, fun h e => by
          have h2 := HB.out
          rw [h] at h2
          exact of_decide_eq_false h2 (Term.mk.inj e).2.2.1, (((Ext.refl _ _).alloc _).alloc _).drewN _⟩
      · have q3 : (n1 == n2) = false := bytes_beq e3
        have q4 := ba_ne e3
        have q5 : ¬ n1.toList = n2.toList := fun e => e3 (ba_inj e)
        go_enter Tryz.func46, Tryz.ntmps46
        go_wp2_with fail
        go_ret
        exact ⟨false, rfl, fun _ e => e3 (Term.mk.inj e).2.2.2, ((Ext.refl _ _).alloc _).alloc _⟩
    · have q2 : (f1 == f2) = false := by rw [beq_eq_false_iff_ne]; exact e2
      go_enter Tryz.func46, Tryz.ntmps46
      go_wp2_with fail
      go_ret
      exact ⟨false, rfl, fun _ e => e2 (Term.mk.inj e).2.1, ((Ext.refl _ _).alloc _).alloc _⟩
  · have q1 : (o1 == o2) = false := by rw [beq_eq_false_iff_ne]; exact e1
    go_enter Tryz.func46, Tryz.ntmps46
    go_wp2_with fail
    go_ret
    exact ⟨false, rfl, fun _ e => e1 (Term.mk.inj e).1, ((Ext.refl _ _).alloc _).alloc _⟩
end Go.Proofs.YtfpmapbimhdafaaGreatDoor
