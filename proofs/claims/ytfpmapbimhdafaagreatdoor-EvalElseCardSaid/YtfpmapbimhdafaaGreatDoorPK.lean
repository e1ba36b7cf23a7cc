/- Contracts: what is wrong with a term, for the reference. -/
import Derived.Test.YtfpmapbimhdafaaGreatDoorPJ
namespace Go.Proofs.YtfpmapbimhdafaaGreatDoor
open Go.RowKit
set_option linter.unusedVariables false
set_option linter.unusedSimpArgs false

def HeadOk (op fn : Int) (num : ByteArray) : Prop := 1 ≤ op ∧ op ≤ 19 ∧ (op ≠ 3 → fn = 0) ∧ (op ≠ 4 → num = ⟨#[]⟩)
def NumOk4 (op : Int) (num : ByteArray) : Prop := op = 4 → NumOk num ∧ (1 < num.size → chI num 0 ≠ 48)
def FnOk3 (op fn : Int) (n : Nat) : Prop := op = 3 → 0 ≤ fn ∧ fn < n
def CountOk (op : Int) (n : Nat) : Prop := (op = 1 ∨ op = 2 ∨ op = 4 → n = 0) ∧ (op = 5 → n = 1) ∧ (op = 10 → n = 3) ∧ (op = 18 → 1 ≤ n) ∧ (6 ≤ op → op ≠ 10 → op ≠ 18 → 2 ≤ n)
def AppOk (funs : List Fun) (op fn : Int) (n : Nat) : Prop := op = 3 → n = (funAt funs fn).args.length
def want13 (op : Int) : Int := if 13 ≤ op then 1 else 0
def want3 (funs : List Fun) (op fn : Int) (k : Nat) : Int := if op = 3 then rdI (funAt funs fn).args k else want13 op
def want11 (funs : List Fun) (ofs : List Int) (op fn : Int) (kids : List Int) (k : Nat) : Int := if op = 11 ∨ op = 12 then rdI ofs (rdI kids 0).toNat else want3 funs op fn k
def want10 (funs : List Fun) (ofs : List Int) (op fn : Int) (kids : List Int) (k : Nat) : Int := if op = 10 ∧ 0 < k then rdI ofs (rdI kids 1).toNat else want11 funs ofs op fn kids k
theorem want_eq {funs : List Fun} {ofs : List Int} {op fn : Int} {kids : List Int} {num : ByteArray} {k : Nat} (hh : 1 ≤ op ∧ op ≤ 19) (hn : op ≠ 1 ∧ op ≠ 2 ∧ op ≠ 4) : want10 funs ofs op fn kids k = wantedT funs ofs ⟨op, fn, kids, num⟩ k := by
  unfold want10 want11 want3 want13 wantedT kidN
  simp only
  split <;> split <;> first | omega | rfl | skip
  all_goals (repeat' split) <;> first | omega | rfl
def WantTo (funs : List Fun) (ofs : List Int) (t : Term) (k : Nat) : Prop := ∀ j, j < k → rdI ofs (kidN t j) = wantedT funs ofs t j
/-- What comes of a look at a term. -/
def WrongRes (S : RSt) (t : Term) (k s : Int) : Prop := k = 0 → TermOk S.funs S.terms.length S.ofs (constsTo S.terms S.terms.length) t ∧ s = resultT S.funs S.ofs t
theorem WrongRes.no {S : RSt} {t : Term} {k s : Int} (h : k ≠ 0) : WrongRes S t k s := fun e => absurd e h
theorem ba_nonempty {num : ByteArray} (h : num ≠ ⟨#[]⟩) : num.toList.isEmpty = false := by
  cases e : num.toList with
  | nil => exact absurd (ba_inj (e.trans (by rw [ByteArray.toList, ByteArray.toList.loop, if_neg (by decide)]; rfl : ([] : List UInt8) = (⟨#[]⟩ : ByteArray).toList))) h
  | cons a l => rfl
theorem of_dec {p : Prop} {_ : Decidable p} (h : p) : decide p = true := decide_eq_true h
theorem of_ndec {p : Prop} {_ : Decidable p} (h : ¬ p) : decide p = false := decide_eq_false h

theorem termOk_of {funs : List Fun} {n : Nat} {ofs : List Int} {consts : List Bool} {op fn : Int} {kids : List Int} {num : ByteArray} (h1 : HeadOk op fn num) (h2 : NumOk4 op num) (h3 : FnOk3 op fn funs.length) (h4 : RangeTo n kids kids.length) (h5 : CountOk op kids.length) (h6 : AppOk funs op fn kids.length)
    (h7 : WantTo funs ofs ⟨op, fn, kids, num⟩ kids.length) (h8 : op = 19 → freeTo consts ⟨op, fn, kids, num⟩ kids.length ≤ 1) : TermOk funs n ofs consts ⟨op, fn, kids, num⟩ where
  op := ⟨h1.1, h1.2.1⟩
  fn := h1.2.2.1
  num := h2
  nonum := h1.2.2.2
  app e := ⟨(h3 e).1, (h3 e).2, h6 e⟩
  kids := h4
  none := h5.1
  one := h5.2.1
  three := h5.2.2.1
  some := h5.2.2.2.1
  two := fun a1 a2 a3 a4 a5 a10 a18 => h5.2.2.2.2 (by have := h1.1; simp only at a1 a2 a3 a4 a5; omega) a10 a18
  sort := h7
  prod := h8

section
variable {w : World} {O : Nat → Prop} {p : Nat} {A : RV} {S : RSt}
set_option maxRecDepth 100000 in
set_option maxHeartbeats 8000000 in
theorem c_Wrong (h : RA w O p A S) (op fn : Int) (kids : List Int) (num : ByteArray) (vt : Value) (ht : kTerm.agg w O ⟨op, fn, kids, num⟩ vt) (hb : BackOk S.terms) (hlo : S.ofs.length = S.terms.length) (hfl : S.funs.length ≤ 1000) (hn : S.terms.length ≤ 1000) (hkl : kids.length ≤ 1000) :
    Calls Tryz.prog 45 #[ptr p, vt] w fun e w' => ∃ (k s : Int), e = .returned (.tuple #[.int .i64 k, .int .i64 s]) ∧ Ext NoB w w' ∧ WrongRes S ⟨op, fn, kids, num⟩ k s := by
  obtain ⟨B, d, rfl, HK, hkm, hk⟩ := tm_open ht
  have H := Lib.hid h
  have HB := Lib.hid hb
  have HLO := Lib.hid hlo
  have HR := Lib.hid hk
  have hE := (Ext.refl NoB w).alloc (Obj.cells #[.int .i64 op, .int .i64 fn, .slice B kids.length d, .string num] 63)
  have HE := Lib.hid hE
  clear h ht hb hlo hk hE
  unfold ptr
  go_enter Tryz.func45, Tryz.ntmps45
  go_upto_region 1 with fail
  have x0 : (w.alloc (.cells #[.int .i64 op, .int .i64 fn, .slice B kids.length d, .string num] 63)).cell? ⟨w.heap.size, 0, none⟩ = some (.int .i64 op) := by go_simp
  have x1 : (w.alloc (.cells #[.int .i64 op, .int .i64 fn, .slice B kids.length d, .string num] 63)).cell? ⟨w.heap.size, 1, none⟩ = some (.int .i64 fn) := by go_simp
  have x2 : (w.alloc (.cells #[.int .i64 op, .int .i64 fn, .slice B kids.length d, .string num] 63)).cell? ⟨w.heap.size, 2, none⟩ = some (.slice B kids.length d) := by go_simp
  have x3 : (w.alloc (.cells #[.int .i64 op, .int .i64 fn, .slice B kids.length d, .string num] 63)).cell? ⟨w.heap.size, 3, none⟩ = some (.string num) := by go_simp
  generalize w.alloc (.cells #[.int .i64 op, .int .i64 fn, .slice B kids.length d, .string num] 63) = wb at *
  generalize w.heap.size = x at *
  go_cut [40] from 13 to 40 (fun c wx => ∃ b : Bool, c = .bool b ∧ Hid (b = false → HeadOk op fn num) ∧ wb = wx)
  case first =>
    by_cases a1 : op < 1
    · have b1 : decide (op < 1) = true := of_dec a1
      clear a1
      go_wp2_with fail
      go_meet
      exact ⟨true, rfl, Lib.hid (fun e => by cases e), rfl⟩
    have b1 : decide (op < 1) = false := of_ndec a1
    by_cases a2 : 19 < op
    · have b2 : decide (19 < op) = true := of_dec a2
      clear a1 a2
      go_wp2_with fail
      go_meet
      exact ⟨true, rfl, Lib.hid (fun e => by cases e), rfl⟩
    have b2 : decide (19 < op) = false := of_ndec a2
    by_cases e3 : op = 3
    · subst e3
      by_cases en : num = ⟨#[]⟩
      · subst en
        clear a1 a2 b1 b2
        go_wp2_with fail
        go_meet
        exact ⟨false, rfl, Lib.hid (fun e => ⟨by omega, by omega, fun h => absurd rfl h, fun _ => rfl⟩), rfl⟩
      · have q3 : (num == ⟨#[]⟩) = false := bytes_beq en
        have q4 := ba_ne en
        have q5 : num.toList.isEmpty = false := ba_nonempty en
        clear a1 a2 b1 b2
        go_wp2_with fail
        go_meet
        exact ⟨true, rfl, Lib.hid (fun e => by cases e), rfl⟩
    have c3 : (op == 3) = false := by rw [beq_eq_false_iff_ne]; exact e3
    have c3' : (op != 3) = true := by rw [bne_iff_ne]; exact e3
    by_cases ef : fn = 0
    · subst ef
      by_cases e4 : op = 4
      · subst e4
        clear a1 a2 b1 b2 c3 c3' e3
        go_wp2_with fail
        go_meet
        exact ⟨false, rfl, Lib.hid (fun e => ⟨by omega, by omega, fun _ => rfl, fun h => absurd rfl h⟩), rfl⟩
      have c4 : (op == 4) = false := by rw [beq_eq_false_iff_ne]; exact e4
      have c4' : (op != 4) = true := by rw [bne_iff_ne]; exact e4
      by_cases en : num = ⟨#[]⟩
      · subst en
        have HH : Hid (HeadOk op 0 ⟨#[]⟩) := Lib.hid ⟨by omega, by omega, fun _ => rfl, fun _ => rfl⟩
        clear a1 a2 e3 e4
        go_wp2_with fail
        go_meet
        exact ⟨false, rfl, Lib.hid (fun e => HH.out), rfl⟩
      · have q3 : (num == ⟨#[]⟩) = false := bytes_beq en
        have q4 := ba_ne en
        have q5 : num.toList.isEmpty = false := ba_nonempty en
        clear a1 a2 e3 e4
        go_wp2_with fail
        go_meet
        exact ⟨true, rfl, Lib.hid (fun e => by cases e), rfl⟩
    · have q : (fn == 0) = false := by rw [beq_eq_false_iff_ne]; exact ef
      have q' : (fn != 0) = true := by rw [bne_iff_ne]; exact ef
      clear a1 a2 e3 ef
      go_wp2_with fail
      go_meet
      exact ⟨true, rfl, Lib.hid (fun e => by cases e), rfl⟩
  case rest =>
    obtain ⟨b, rfl, HH, rfl⟩ := hcut
    cases b with
    | true =>
      go_wp2_with fail
      go_ret2
      exact ⟨_, _, rfl, HE.out, WrongRes.no (by decide)⟩
    | false =>
      have HH2 := Lib.hid (HH.out rfl)
      clear HH
      go_upto_if 43 with fail
      go_cut [6] from 41 to 84 (fun _ wx => Hid (NumOk4 op num) ∧ wb = wx)
      case first =>
        by_cases e4 : op = 4
        · subst e4
          by_cases s0 : num.size < 1
          · have b0 : decide ((num.size : Int) < 1) = true := of_dec (by omega)
            clear s0
            go_wp2_with fail
            go_ret2
            exact ⟨_, _, rfl, HE.out, WrongRes.no (by decide)⟩
          have b0 : decide ((num.size : Int) < 1) = false := of_ndec (by omega)
          by_cases s1 : 10000 < num.size
          · have b1 : decide (10000 < (num.size : Int)) = true := of_dec (by omega)
            clear s0 s1
            go_wp2_with fail
            go_ret2
            exact ⟨_, _, rfl, HE.out, WrongRes.no (by decide)⟩
          have b1 : decide (10000 < (num.size : Int)) = false := of_ndec (by omega)
          have hlt0 : 0 < num.size := by omega
          have s0' : ¬ num.size < 1 := s0
          go_upto_region 4 with fail
          go_cut [65] from 44 to 65 (fun c wx => ∃ b : Bool, c = .bool b ∧ Hid (b = false → 1 < num.size → chI num 0 ≠ 48) ∧ wb = wx)
          case first =>
            by_cases s2 : 1 < num.size
            · have b2 : decide (1 < (num.size : Int)) = true := of_dec (by omega)
              have b2' : decide (1 < num.size) = true := of_dec s2
              have hc := chI_eq hlt0
              by_cases s3 : chI num 0 = 48
              · have b3 : (((num[0]'hlt0).toNat : Int) == 48) = true := by rw [beq_iff_eq, hc]; exact s3
                clear s0 s0' s1 s2 s3 hc
                go_wp2_with fail
                go_meet
                exact ⟨true, rfl, Lib.hid (fun e => by cases e), rfl⟩
              · have b3 : (((num[0]'hlt0).toNat : Int) == 48) = false := by rw [beq_eq_false_iff_ne, hc]; exact s3
                have HC : Hid (chI num 0 ≠ 48) := Lib.hid s3
                clear s0 s0' s1 s2 s3 hc
                go_wp2_with fail
                go_meet
                exact ⟨false, rfl, Lib.hid (fun _ _ => HC.out), rfl⟩
            · have b2 : decide (1 < (num.size : Int)) = false := of_ndec (by omega)
              have b2' : decide (1 < num.size) = false := of_ndec s2
              have HC : Hid (¬ 1 < num.size) := Lib.hid s2
              clear s0 s0' s1 s2
              go_wp2_with fail
              go_meet
              exact ⟨false, rfl, Lib.hid (fun _ h => absurd h HC.out), rfl⟩
          case rest =>
            obtain ⟨b, rfl, HC, rfl⟩ := hcut
            cases b with
            | true =>
              go_wp2_with fail
              go_ret2
              exact ⟨_, _, rfl, HE.out, WrongRes.no (by decide)⟩
            | false =>
              have HC2 := Lib.hid (HC.out rfl)
              clear HC
              go_wp2_with fail
              go_loopw [6] (fun i wr => ∃ k : Nat, k ≤ num.size ∧ i = .int .i64 k ∧ Hid (∀ j, j < k → 48 ≤ chI num j ∧ chI num j ≤ 57) ∧ wr = wb) (fun i _ => num.size - (intOf i).toNat)
              case atStart => exact ⟨0, Nat.zero_le _, rfl, Lib.hid (fun j hj => by omega), rfl⟩
              case round =>
                obtain ⟨k, hk, rfl, HK, rfl⟩ := hrel
                by_cases hlt : k < num.size
                · have hc := chI_eq hlt
                  by_cases c0 : chI num k < 48
                  · have b2 : decide ((((num[k]'hlt).toNat : Nat) : Int) < 48) = true := of_dec (by omega)
                    clear hc c0
                    go_wp2_with fail
                    go_ret2
                    exact ⟨_, _, rfl, HE.out, WrongRes.no (by decide)⟩
                  have b2 : decide ((((num[k]'hlt).toNat : Nat) : Int) < 48) = false := of_ndec (by omega)
                  by_cases c1 : 57 < chI num k
                  · have b3 : decide (57 < (((num[k]'hlt).toNat : Nat) : Int)) = true := of_dec (by omega)
                    clear hc c0 c1
                    go_wp2_with fail
                    go_ret2
                    exact ⟨_, _, rfl, HE.out, WrongRes.no (by decide)⟩
                  have b3 : decide (57 < (((num[k]'hlt).toNat : Nat) : Int)) = false := of_ndec (by omega)
                  have HK2 : Hid (∀ j, j < k + 1 → 48 ≤ chI num j ∧ chI num j ≤ 57) := Lib.hid (fun j hj => by
                    by_cases e : j = k
                    · subst e; omega
                    · exact HK.out j (by omega))
                  clear hc c0 c1
                  go_wp2_with fail
                  exact ⟨⟨k + 1, by omega, by go_num, HK2, trivial⟩, by simp [intOf]; omega⟩
                · obtain rfl : k = num.size := by omega
                  have HN : Hid (NumOk4 4 num) := Lib.hid (fun _ => ⟨⟨by omega, by omega, HK.out⟩, HC2.out⟩)
                  clear hk hlt
                  go_wp2_with fail
                  go_meet
                  exact ⟨HN, rfl⟩
        · have c4 : (op == 4) = false := by rw [beq_eq_false_iff_ne]; exact e4
          have HN : Hid (NumOk4 op num) := Lib.hid (fun e => absurd e e4)
          clear e4
          go_wp2_with fail
          go_meet
          exact ⟨HN, rfl⟩
      case rest =>
        obtain ⟨HN, rfl⟩ := hcut
        obtain ⟨Tf, tfc, hTf, _, _⟩ := H.out.funs.shape
        obtain ⟨Tt, ttc, hTt, _, _⟩ := H.out.terms.shape
        have c1 : wb.cell? ⟨p, 1, none⟩ = some (.slice Tf S.funs.length tfc) := by have := HE.out.cell H.out.c1 (fun h => h); rwa [hTf] at this
        have c2 : wb.cell? ⟨p, 2, none⟩ = some (.slice Tt S.terms.length ttc) := by have := HE.out.cell H.out.c2 (fun h => h); rwa [hTt] at this
        have HTf := Lib.hid hTf
        have HTt := Lib.hid hTt
        clear hTf hTt
        go_upto_region 11 with fail
        go_cut [102] from 85 to 102 (fun c wx => ∃ b : Bool, c = .bool b ∧ Hid (b = false → FnOk3 op fn S.funs.length) ∧ ∃ n, wx = wb.drewN n)
        case first =>
          by_cases e3 : op = 3
          · subst e3
            by_cases f0 : fn < 0
            · have b0 : decide (fn < 0) = true := of_dec f0
              clear f0
              go_quiet (fail)
              go_wp2_with fail
              go_meet
              exact ⟨true, rfl, Lib.hid (fun e => by cases e), _, rfl⟩
            have b0 : decide (fn < 0) = false := of_ndec f0
            by_cases f1 : (S.funs.length : Int) ≤ fn
            · have b1 : decide ((S.funs.length : Int) ≤ fn) = true := of_dec f1
              clear f0 f1
              go_quiet (fail)
              go_wp2_with fail
              go_meet
              exact ⟨true, rfl, Lib.hid (fun e => by cases e), _, rfl⟩
            have b1 : decide ((S.funs.length : Int) ≤ fn) = false := of_ndec f1
            have HF : Hid (FnOk3 3 fn S.funs.length) := Lib.hid (fun _ => ⟨by omega, by omega⟩)
            clear f0 f1
            go_quiet (fail)
            go_wp2_with fail
            go_meet
            exact ⟨false, rfl, Lib.hid (fun _ => HF.out), _, rfl⟩
          · have b3 : (op == 3) = false := by rw [beq_eq_false_iff_ne]; exact e3
            have HF : Hid (FnOk3 op fn S.funs.length) := Lib.hid (fun e => absurd e e3)
            clear e3
            go_quiet (fail)
            go_wp2_with fail
            go_meet
            exact ⟨false, rfl, Lib.hid (fun _ => HF.out), _, rfl⟩
        case rest =>
          obtain ⟨b, rfl, HF, n0, rfl⟩ := hcut
          cases b with
          | true =>
            go_wp2_with fail
            go_ret2
            exact ⟨_, _, rfl, HE.out.drewN _, WrongRes.no (by decide)⟩
          | false =>
            have HF2 := Lib.hid (HF.out rfl)
            clear HF
            go_wp2_with fail
            go_loopw [8] (fun i wr => ∃ k : Nat, k ≤ kids.length ∧ i = .int .i64 k ∧ Hid (RangeTo S.terms.length kids k) ∧ ∃ n, wr = wb.drewN n) (fun i _ => kids.length - (intOf i).toNat)
            case atStart => exact ⟨0, Nat.zero_le _, rfl, Lib.hid (fun j hj => by omega), _, rfl⟩
            case round =>
              obtain ⟨k, hk, rfl, HK2, n, rfl⟩ := hrel
              by_cases hlt : k < kids.length
              · obtain ⟨b, off, rfl, _, y, _⟩ := ints_at HR.out hlt
                replace y := HE.out.cell y (fun h => h)
                by_cases h1 : rdI kids k < 0
                · have hb1 : decide (rdI kids k < 0) = true := decide_eq_true h1
                  clear h1
                  generalize rdI kids k = xx at *
                  go_wp2_with fail
                  go_quiet (fail)
                  go_wp2_with fail
                  go_ret2
                  exact ⟨_, _, rfl, HE.out.trans (Dr.nn _ _ _).ext, WrongRes.no (by decide)⟩
                have hb1 : decide (rdI kids k < 0) = false := decide_eq_false h1
                by_cases h2 : (S.terms.length : Int) ≤ rdI kids k
                · have hb2 : decide ((S.terms.length : Int) ≤ rdI kids k) = true := decide_eq_true h2
                  clear h1 h2
                  generalize rdI kids k = xx at *
                  go_wp2_with fail
                  go_quiet (fail)
                  go_wp2_with fail
                  go_ret2
                  exact ⟨_, _, rfl, HE.out.trans (Dr.nn _ _ _).ext, WrongRes.no (by decide)⟩
                have hb2 : decide ((S.terms.length : Int) ≤ rdI kids k) = false := decide_eq_false h2
                have HK3 := Lib.hid (HK2.out.step (by omega) (by omega))
                clear h1 h2
                generalize rdI kids k = xx at *
                go_wp2_with fail
                go_quiet (fail)
                go_wp2_with fail
                exact ⟨⟨k + 1, by omega, by go_num, HK3, _, rfl⟩, by simp [intOf]; omega⟩
              · obtain rfl : k = kids.length := by omega
                clear hk hlt
                generalize hW : wb.drewN n = W1 at *
                have HE1 : Hid (Ext NoB w W1) := Lib.hid (hW ▸ HE.out.drewN n)
                have HK1 : Hid (RangeTo S.terms.length kids kids.length) := HK2
                replace x0 := (Dr.n wb n).ext.cell x0 (fun h : NoB _ => h)
                replace x1 := (Dr.n wb n).ext.cell x1 (fun h : NoB _ => h)
                replace x2 := (Dr.n wb n).ext.cell x2 (fun h : NoB _ => h)
                replace c1 := (Dr.n wb n).ext.cell c1 (fun h : NoB _ => h)
                rw [hW] at x0 x1 x2 c1
                clear hW x3 c2 HK2
                go_upto_region 19 with fail
                go_cut [192] from 130 to 192 (fun c wx => ∃ b : Bool, c = .bool b ∧ Hid (b = false → CountOk op kids.length) ∧ W1 = wx)
                case first =>
                  as_aux_lemma =>
                    clear HR HK1 HN HF2 H HB HLO hkl hkm HTf HTt
                    generalize kids.length = L at *
                    by_cases e1 : op = 1
                    · subst e1
                      by_cases q : L = 0
                      · subst q
                        have HC : Hid (CountOk 1 0) := Lib.hid (by unfold CountOk; omega)
                        go_wp2_with fail
                        go_meet
                        exact ⟨false, rfl, Lib.hid (fun _ => HC.out), rfl⟩
                      · have b0 : decide (0 < (L : Int)) = true := of_dec (by omega)
                        have b1 : decide (0 < L) = true := of_dec (by omega)
                        clear q
                        go_wp2_with fail
                        go_meet
                        exact ⟨true, rfl, Lib.hid (fun e => by cases e), rfl⟩
                    by_cases e2 : op = 2
                    · subst e2
                      clear e1
                      by_cases q : L = 0
                      · subst q
                        have HC : Hid (CountOk 2 0) := Lib.hid (by unfold CountOk; omega)
                        go_wp2_with fail
                        go_meet
                        exact ⟨false, rfl, Lib.hid (fun _ => HC.out), rfl⟩
                      · have b0 : decide (0 < (L : Int)) = true := of_dec (by omega)
                        have b1 : decide (0 < L) = true := of_dec (by omega)
                        clear q
                        go_wp2_with fail
                        go_meet
                        exact ⟨true, rfl, Lib.hid (fun e => by cases e), rfl⟩
                    by_cases e4 : op = 4
                    · subst e4
                      clear e1 e2
                      by_cases q : L = 0
                      · subst q
                        have HC : Hid (CountOk 4 0) := Lib.hid (by unfold CountOk; omega)
                        go_wp2_with fail
                        go_meet
                        exact ⟨false, rfl, Lib.hid (fun _ => HC.out), rfl⟩
                      · have b0 : decide (0 < (L : Int)) = true := of_dec (by omega)
                        have b1 : decide (0 < L) = true := of_dec (by omega)
                        clear q
                        go_wp2_with fail
                        go_meet
                        exact ⟨true, rfl, Lib.hid (fun e => by cases e), rfl⟩
                    by_cases e5 : op = 5
                    · subst e5
                      clear e1 e2 e4
                      by_cases q : L = 1
                      · subst q
                        have HC : Hid (CountOk 5 1) := Lib.hid (by unfold CountOk; omega)
                        go_wp2_with fail
                        go_meet
                        exact ⟨false, rfl, Lib.hid (fun _ => HC.out), rfl⟩
                      · have b0 : ((L : Int) == 1) = false := by rw [beq_eq_false_iff_ne]; omega
                        have b1 : (L == 1) = false := by rw [beq_eq_false_iff_ne]; exact q
                        have b2 : decide (L = 1) = false := of_ndec q
                        have b3 : ((L : Int) != 1) = true := by rw [bne_iff_ne]; omega
                        clear q
                        go_wp2_with fail
                        go_meet
                        exact ⟨true, rfl, Lib.hid (fun e => by cases e), rfl⟩
                    by_cases e10 : op = 10
                    · subst e10
                      clear e1 e2 e4 e5
                      by_cases q : L = 3
                      · subst q
                        have HC : Hid (CountOk 10 3) := Lib.hid (by unfold CountOk; omega)
                        go_wp2_with fail
                        go_meet
                        exact ⟨false, rfl, Lib.hid (fun _ => HC.out), rfl⟩
                      · have b0 : ((L : Int) == 3) = false := by rw [beq_eq_false_iff_ne]; omega
                        have b1 : (L == 3) = false := by rw [beq_eq_false_iff_ne]; exact q
                        have b2 : decide (L = 3) = false := of_ndec q
                        have b3 : ((L : Int) != 3) = true := by rw [bne_iff_ne]; omega
                        clear q
                        go_wp2_with fail
                        go_meet
                        exact ⟨true, rfl, Lib.hid (fun e => by cases e), rfl⟩
                    by_cases e18 : op = 18
                    · subst e18
                      clear e1 e2 e4 e5 e10
                      by_cases q : L = 0
                      · subst q
                        go_wp2_with fail
                        go_meet
                        exact ⟨true, rfl, Lib.hid (fun e => by cases e), rfl⟩
                      · have b0 : decide ((L : Int) < 1) = false := of_ndec (by omega)
                        have HC : Hid (CountOk 18 L) := Lib.hid (by unfold CountOk; omega)
                        clear q
                        go_wp2_with fail
                        go_meet
                        exact ⟨false, rfl, Lib.hid (fun _ => HC.out), rfl⟩
                    by_cases e3 : op = 3
                    · subst e3
                      have HC : Hid (CountOk 3 L) := Lib.hid (by unfold CountOk; omega)
                      go_wp2_with fail
                      go_meet
                      exact ⟨false, rfl, Lib.hid (fun _ => HC.out), rfl⟩
                    have c1 : (op == 1) = false := by rw [beq_eq_false_iff_ne]; exact e1
                    have c2 : (op == 2) = false := by rw [beq_eq_false_iff_ne]; exact e2
                    have c4 : (op == 4) = false := by rw [beq_eq_false_iff_ne]; exact e4
                    have c5 : (op == 5) = false := by rw [beq_eq_false_iff_ne]; exact e5
                    have c10 : (op == 10) = false := by rw [beq_eq_false_iff_ne]; exact e10
                    have c18 : (op == 18) = false := by rw [beq_eq_false_iff_ne]; exact e18
                    have d10 : (op != 10) = true := by rw [bne_iff_ne]; exact e10
                    have d18 : (op != 18) = true := by rw [bne_iff_ne]; exact e18
                    have g6 : decide (6 ≤ op) = true := of_dec (by have := HH2.out.1; omega)
                    by_cases q : L < 2
                    · have b0 : decide ((L : Int) < 2) = true := of_dec (by omega)
                      clear q e1 e2 e3 e4 e5 e10 e18
                      go_wp2_with fail
                      go_meet
                      exact ⟨true, rfl, Lib.hid (fun e => by cases e), rfl⟩
                    · have b0 : decide ((L : Int) < 2) = false := of_ndec (by omega)
                      have HC : Hid (CountOk op L) := Lib.hid (by unfold CountOk; omega)
                      clear q e1 e2 e3 e4 e5 e10 e18
                      go_wp2_with fail
                      go_meet
                      exact ⟨false, rfl, Lib.hid (fun _ => HC.out), rfl⟩
                case rest =>
                  obtain ⟨b, rfl, HC, rfl⟩ := hcut
                  cases b with
                  | true =>
                    go_wp2_with fail
                    go_ret2
                    exact ⟨_, _, rfl, HE1.out, WrongRes.no (by decide)⟩
                  | false =>
                    have HC2 := Lib.hid (HC.out rfl)
                    clear HC
                    go_upto_region 21 with fail
                    go_cut [209] from 193 to 209 (fun c wx => ∃ b : Bool, c = .bool b ∧ Hid (b = false → AppOk S.funs op fn kids.length) ∧ ∃ n, wx = W1.drewN n)
                    case first =>
                      by_cases e3 : op = 3
                      · subst e3
                        obtain ⟨f0, f1⟩ := HF2.out rfl
                        obtain ⟨m, rfl⟩ : ∃ m : Nat, fn = (m : Int) := ⟨fn.toNat, by omega⟩
                        obtain ⟨f, hf⟩ := at_some (show m < S.funs.length by omega)
                        obtain ⟨g, gc, hv⟩ := H.out.funs.form (by omega)
                        obtain rfl : Tf = some ⟨g, 0, none⟩ := by
                          have := HTf.out.symm.trans hv
                          injection this
                        have hfu := H.out.funs
                        rw [hv] at hfu
                        obtain ⟨Fa, fd, ⟨y0, y1, y2⟩, _, _, _⟩ := hfu.fun_at hf
                        replace y1 := HE1.out.cell y1 (fun h => h)
                        have HFA : Hid (funAt S.funs (m : Int) = f) := Lib.hid (funAt_eq hf)
                        have g1 : (m : Int) < (S.funs.length : Int) := by omega
                        clear hv hfu y0 y2 hf f1 HR HK1 HN HF2 H HB HLO hkl hkm HTf HTt
                        by_cases q : kids.length = f.args.length
                        · have HAP : Hid (AppOk S.funs 3 (m : Int) kids.length) := Lib.hid (fun _ => by rw [HFA.out]; exact q)
                          clear HFA HC2
                          generalize f.args.length = M at *
                          generalize kids.length = L at *
                          subst q
                          go_quiet (fail)
                          go_wp2_with fail
                          go_meet
                          exact ⟨false, rfl, Lib.hid (fun _ => HAP.out), _, rfl⟩
                        · have q2 : ((kids.length : Int) != (f.args.length : Int)) = true := by rw [bne_iff_ne]; omega
                          have q3 : ((kids.length : Int) == (f.args.length : Int)) = false := by rw [beq_eq_false_iff_ne]; omega
                          clear HFA HC2
                          generalize f.args.length = M at *
                          generalize kids.length = L at *
                          go_quiet (fail)
                          go_wp2_with fail
                          go_meet
                          exact ⟨true, rfl, Lib.hid (fun e => by cases e), _, rfl⟩
                      · have b3 : (op == 3) = false := by rw [beq_eq_false_iff_ne]; exact e3
                        have HAP : Hid (AppOk S.funs op fn kids.length) := Lib.hid (fun e => absurd e e3)
                        clear e3
                        go_quiet (fail)
                        go_wp2_with fail
                        go_meet
                        exact ⟨false, rfl, Lib.hid (fun _ => HAP.out), _, rfl⟩
                    case rest =>
                      obtain ⟨b, rfl, HAP, n1, rfl⟩ := hcut
                      cases b with
                      | true =>
                        go_wp2_with fail
                        go_ret2
                        exact ⟨_, _, rfl, HE1.out.drewN _, WrongRes.no (by decide)⟩
                      | false =>
                        have HAP2 := Lib.hid (HAP.out rfl)
                        clear HAP
                        go_wp2_with fail
                        go_loopw [9, 10] (fun u i wr => ∃ k : Nat, k ≤ kids.length ∧ i = .int .i64 k ∧ u = .int .i64 (freeTo (constsTo S.terms S.terms.length) ⟨op, fn, kids, num⟩ k : Nat) ∧ Hid (WantTo S.funs S.ofs ⟨op, fn, kids, num⟩ k ∧ Ext NoB W1 wr)) (fun _ i _ => kids.length - (intOf i).toNat)
                        case atStart => exact ⟨0, Nat.zero_le _, rfl, rfl, Lib.hid ⟨fun j hj => by omega, (Ext.refl _ _).drewN _⟩⟩
                        case round =>
                          obtain ⟨k, hk, rfl, rfl, HWT⟩ := hrel
                          have HEr := Lib.hid (HE1.out.trans HWT.out.2)
                          have HWT1 := Lib.hid HWT.out.1
                          have HEx := Lib.hid HWT.out.2
                          replace x0 := HEx.out.cell x0 (fun h => h)
                          replace x1 := HEx.out.cell x1 (fun h => h)
                          replace x2 := HEx.out.cell x2 (fun h => h)
                          replace c1 := HEx.out.cell c1 (fun h => h)
                          clear HWT
                          by_cases hlt : k < kids.length
                          · obtain ⟨kb, koff, rfl, _, y, _⟩ := ints_at HR.out hlt
                            obtain ⟨r0, r1⟩ := HK1.out k hlt
                            have HKN : Hid (rdI kids k = (kidN ⟨op, fn, kids, num⟩ k : Int)) := Lib.hid (by show rdI kids k = ((rdI kids k).toNat : Int); omega)
                            have HKL : Hid (kidN ⟨op, fn, kids, num⟩ k < S.terms.length) := Lib.hid (by have := HKN.out; omega)
                            obtain ⟨go, oc, hOv⟩ := H.out.ofs.form (by have := HLO.out; have := HKL.out; omega)
                            have hof := H.out.ofs
                            have c3 := HEr.out.cell H.out.c3 (fun h => h)
                            rw [hOv] at hof c3
                            have HOF := Lib.hid hof
                            replace y := HEr.out.cell y (fun h => h)
                            rw [HKN.out] at y
                            have r2 : (0 : Int) ≤ (kidN ⟨op, fn, kids, num⟩ k : Int) := by omega
                            have HOL : Hid (kidN ⟨op, fn, kids, num⟩ k < S.ofs.length) := Lib.hid (by have := HLO.out; have := HKL.out; omega)
                            have r3 : (kidN ⟨op, fn, kids, num⟩ k : Int) < (S.ofs.length : Int) := by have := HOL.out; omega
                            have z := HEr.out.cell (hof.int_at (k := kidN ⟨op, fn, kids, num⟩ k) HOL.out).1 (fun h => h)
                            clear hof hOv r0 r1
                            go_upto_if 217 with fail
                            go_cut [11] from 215 to 217 (fun c wx => c = .int .i64 (want13 op) ∧ wr = wx)
                            case first =>
                              by_cases e13 : 13 ≤ op
                              · have b13 : decide (13 ≤ op) = true := of_dec e13
                                rw [b13]
                                have HWV : Hid (1 = want13 op) := Lib.hid (by rw [want13, if_pos e13])
                                clear e13 y z
                                go_wp2_with fail
                                go_meet
                                exact ⟨congrArg (Value.int .i64) HWV.out, rfl⟩
                              · have b13 : decide (13 ≤ op) = false := of_ndec e13
                                rw [b13]
                                have HWV : Hid (0 = want13 op) := Lib.hid (by rw [want13, if_neg e13])
                                clear e13 y z
                                go_wp2_with fail
                                go_meet
                                exact ⟨congrArg (Value.int .i64) HWV.out, rfl⟩
                            case rest =>
                              obtain ⟨rfl, rfl⟩ := hcut
                              go_upto_if 220 with fail
                              go_cut [11] from 218 to 232 (fun c wx => c = .int .i64 (want3 S.funs op fn k) ∧ ∃ n, wx = wr.drewN n)
                              case first =>
                                by_cases e3 : op = 3
                                · subst e3
                                  obtain ⟨f0, f1⟩ := HF2.out rfl
                                  obtain ⟨m, rfl⟩ : ∃ m : Nat, fn = (m : Int) := ⟨fn.toNat, by omega⟩
                                  obtain ⟨f, hf⟩ := at_some (show m < S.funs.length by omega)
                                  obtain ⟨g, gc, hv⟩ := H.out.funs.form (by omega)
                                  obtain rfl : Tf = some ⟨g, 0, none⟩ := by
                                    have := HTf.out.symm.trans hv
                                    injection this
                                  have hfu := H.out.funs
                                  rw [hv] at hfu
                                  obtain ⟨Fa, fd, ⟨y0, y1, y2⟩, hK, _, _⟩ := hfu.fun_at hf
                                  have hfl2 : k < f.args.length := by have := HAP2.out rfl; rw [funAt_eq hf] at this; omega
                                  obtain ⟨Fa', fd', hv2, _, _, hr2⟩ := Kd.one_slice hK
                                  injection hv2 with hv3 _ _
                                  subst hv3
                                  obtain ⟨ab, aoff, rfl, _, z2, _⟩ := ints_at hr2 hfl2
                                  have HWV : Hid (rdI f.args k = want3 S.funs 3 (m : Int) k) := Lib.hid (by rw [want3, if_pos rfl, funAt_eq hf])
                                  replace y1 := HEr.out.cell y1 (fun h => h)
                                  replace z2 := HEr.out.cell z2 (fun h => h)
                                  have g1 : (m : Int) < (S.funs.length : Int) := by omega
                                  have g2 : (k : Int) < (f.args.length : Int) := by omega
                                  clear hv hfu y0 y2 hf f1 hK hr2 hfl2
                                  generalize rdI f.args k = wv at *
                                  clear y z
                                  go_wp2_with fail
                                  go_quiet (fail)
                                  go_wp2_with fail
                                  go_meet
                                  exact ⟨congrArg (Value.int .i64) HWV.out, _, rfl⟩
                                · have b3 : (op == 3) = false := by rw [beq_eq_false_iff_ne]; exact e3
                                  have HWV : Hid (want13 op = want3 S.funs op fn k) := Lib.hid (by rw [want3, if_neg e3])
                                  generalize want13 op = w13 at *
                                  clear e3
                                  clear y z
                                  go_wp2_with fail
                                  go_meet
                                  exact ⟨congrArg (Value.int .i64) HWV.out, 0, rfl⟩
                              case rest =>
                                obtain ⟨rfl, n2, rfl⟩ := hcut
                                go_upto_region 32 with fail
                                go_cut [240] from 233 to 240 (fun c wx => c = .bool (decide (op = 11 ∨ op = 12)) ∧ wr.drewN n2 = wx)
                                case first =>
                                  by_cases e11 : op = 11
                                  · subst e11
                                    clear y z
                                    go_wp2_with fail
                                    go_meet
                                    exact ⟨by simp, rfl⟩
                                  have b11 : (op == 11) = false := by rw [beq_eq_false_iff_ne]; exact e11
                                  by_cases e12 : op = 12
                                  · subst e12
                                    clear y z
                                    go_wp2_with fail
                                    go_meet
                                    exact ⟨by simp, rfl⟩
                                  have b12 : (op == 12) = false := by rw [beq_eq_false_iff_ne]; exact e12
                                  have HWV : Hid (decide (op = 11 ∨ op = 12) = false) := Lib.hid (of_ndec (by omega))
                                  clear y z e11 e12
                                  go_wp2_with fail
                                  go_meet
                                  exact ⟨congrArg Value.bool HWV.out.symm, rfl⟩
                                case rest =>
                                  obtain ⟨rfl, hw⟩ := hcut
                                  subst hw
                                  go_upto_if 240 with fail
                                  go_cut [11] from 233 to 250 (fun c wx => c = .int .i64 (want11 S.funs S.ofs op fn kids k) ∧ ∃ n, wx = wr.drewN n)
                                  case first =>
                                    by_cases e11 : op = 11
                                    · subst e11
                                      have bb : decide ((11 : Int) = 11 ∨ (11 : Int) = 12) = true := by simp
                                      rw [bb]
                                      obtain ⟨q0, q1⟩ := HK1.out 0 (by omega)
                                      obtain ⟨b2, o2, hB, _, y0, _⟩ := ints_at HR.out (show 0 < kids.length by omega)
                                      simp only [Option.some.injEq, Addr.mk.injEq, and_true] at hB
                                      obtain ⟨hB1, hB2⟩ := hB
                                      subst hB1 hB2
                                      have K0 : rdI kids 0 = (kidN ⟨11, fn, kids, num⟩ 0 : Int) := by show rdI kids 0 = ((rdI kids 0).toNat : Int); omega
                                      have K1 : kidN ⟨11, fn, kids, num⟩ 0 < S.ofs.length := by have := HLO.out; omega
                                      have z0 := HEr.out.cell (HOF.out.int_at (k := kidN ⟨11, fn, kids, num⟩ 0) K1).1 (fun h => h)
                                      replace y0 := HEr.out.cell y0 (fun h => h)
                                      rw [K0] at y0
                                      have s2 : (0 : Int) ≤ (kidN ⟨11, fn, kids, num⟩ 0 : Int) := by omega
                                      have s3 : (kidN ⟨11, fn, kids, num⟩ 0 : Int) < (S.ofs.length : Int) := by omega
                                      have s4 : (0 : Int) < (kids.length : Int) := by omega
                                      rw [Nat.add_zero] at y0
                                      have HWV : Hid (rdI S.ofs (kidN ⟨11, fn, kids, num⟩ 0) = want11 S.funs S.ofs 11 fn kids k) := Lib.hid (by rw [want11, if_pos (by simp)]; rfl)
                                      clear K0 K1 q0 q1
                                      generalize want3 S.funs 11 fn k = w3 at *
                                      generalize rdI S.ofs (kidN ⟨11, fn, kids, num⟩ 0) = wv at *
                                      generalize kidN ⟨11, fn, kids, num⟩ 0 = kk at *
                                      clear y z
                                      go_wp2_with fail
                                      go_quiet (fail)
                                      go_wp2_with fail
                                      go_meet
                                      exact ⟨congrArg (Value.int .i64) HWV.out, _, World.drewN_drewN ..⟩
                                    have b11 : (op == 11) = false := by rw [beq_eq_false_iff_ne]; exact e11
                                    by_cases e12 : op = 12
                                    · subst e12
                                      have bb : decide ((12 : Int) = 11 ∨ (12 : Int) = 12) = true := by simp
                                      rw [bb]
                                      obtain ⟨q0, q1⟩ := HK1.out 0 (by omega)
                                      obtain ⟨b2, o2, hB, _, y0, _⟩ := ints_at HR.out (show 0 < kids.length by omega)
                                      simp only [Option.some.injEq, Addr.mk.injEq, and_true] at hB
                                      obtain ⟨hB1, hB2⟩ := hB
                                      subst hB1 hB2
                                      have K0 : rdI kids 0 = (kidN ⟨12, fn, kids, num⟩ 0 : Int) := by show rdI kids 0 = ((rdI kids 0).toNat : Int); omega
                                      have K1 : kidN ⟨12, fn, kids, num⟩ 0 < S.ofs.length := by have := HLO.out; omega
                                      have z0 := HEr.out.cell (HOF.out.int_at (k := kidN ⟨12, fn, kids, num⟩ 0) K1).1 (fun h => h)
                                      replace y0 := HEr.out.cell y0 (fun h => h)
                                      rw [K0] at y0
                                      have s2 : (0 : Int) ≤ (kidN ⟨12, fn, kids, num⟩ 0 : Int) := by omega
                                      have s3 : (kidN ⟨12, fn, kids, num⟩ 0 : Int) < (S.ofs.length : Int) := by omega
                                      have s4 : (0 : Int) < (kids.length : Int) := by omega
                                      rw [Nat.add_zero] at y0
                                      have HWV : Hid (rdI S.ofs (kidN ⟨12, fn, kids, num⟩ 0) = want11 S.funs S.ofs 12 fn kids k) := Lib.hid (by rw [want11, if_pos (by simp)]; rfl)
                                      clear K0 K1 q0 q1
                                      generalize want3 S.funs 12 fn k = w3 at *
                                      generalize rdI S.ofs (kidN ⟨12, fn, kids, num⟩ 0) = wv at *
                                      generalize kidN ⟨12, fn, kids, num⟩ 0 = kk at *
                                      clear y z
                                      go_wp2_with fail
                                      go_quiet (fail)
                                      go_wp2_with fail
                                      go_meet
                                      exact ⟨congrArg (Value.int .i64) HWV.out, _, World.drewN_drewN ..⟩
                                    have b12 : (op == 12) = false := by rw [beq_eq_false_iff_ne]; exact e12
                                    have bb : decide (op = 11 ∨ op = 12) = false := of_ndec (by omega)
                                    rw [bb]
                                    have HWV : Hid (want3 S.funs op fn k = want11 S.funs S.ofs op fn kids k) := Lib.hid (by rw [want11, if_neg (by omega)])
                                    generalize want3 S.funs op fn k = w3 at *
                                    clear y z
                                    go_wp2_with fail
                                    go_meet
                                    exact ⟨congrArg (Value.int .i64) HWV.out, _, rfl⟩
                                  case rest =>
                                    obtain ⟨rfl, n3, rfl⟩ := hcut
                                    go_upto_region 34 with fail
                                    go_cut [257] from 251 to 257 (fun c wx => c = .bool (decide (op = 10 ∧ 0 < k)) ∧ ∃ n, wx = wr.drewN n)
                                    case first =>
                                      by_cases e10 : op = 10
                                      · subst e10
                                        by_cases k0 : k = 0
                                        · subst k0
                                          clear y z
                                          go_wp2_with fail
                                          go_meet
                                          exact ⟨by simp, _, rfl⟩
                                        · have kp : decide (0 < (k : Int)) = true := of_dec (by omega)
                                          have kp2 : decide (0 < k) = true := of_dec (by omega)
                                          have HWV : Hid (decide ((10 : Int) = 10 ∧ 0 < k) = true) := Lib.hid (of_dec ⟨rfl, by omega⟩)
                                          clear y z k0
                                          go_wp2_with fail
                                          go_meet
                                          exact ⟨congrArg Value.bool HWV.out.symm, _, rfl⟩
                                      · have b10 : (op == 10) = false := by rw [beq_eq_false_iff_ne]; exact e10
                                        have HWV : Hid (decide (op = 10 ∧ 0 < k) = false) := Lib.hid (of_ndec (by omega))
                                        clear y z e10
                                        go_wp2_with fail
                                        go_meet
                                        exact ⟨congrArg Value.bool HWV.out.symm, _, rfl⟩
                                    case rest =>
                                      obtain ⟨rfl, n5, rfl⟩ := hcut
                                      go_upto_if 257 with fail
                                      go_cut [11] from 251 to 267 (fun c wx => c = .int .i64 (want10 S.funs S.ofs op fn kids k) ∧ ∃ n, wx = wr.drewN n)
                                      case first =>
                                        by_cases e10 : op = 10
                                        · subst e10
                                          have hk3 : kids.length = 3 := HC2.out.2.2.1 rfl
                                          by_cases k0 : k = 0
                                          · subst k0
                                            have bb : decide ((10 : Int) = 10 ∧ 0 < 0) = false := by simp
                                            rw [bb]
                                            have HWV : Hid (want11 S.funs S.ofs 10 fn kids 0 = want10 S.funs S.ofs 10 fn kids 0) := Lib.hid (by rw [want10, if_neg (by omega)])
                                            generalize want11 S.funs S.ofs 10 fn kids 0 = w11 at *
                                            clear hk3
                                            clear y z
                                            go_wp2_with fail
                                            go_meet
                                            exact ⟨congrArg (Value.int .i64) HWV.out, _, rfl⟩
                                          · have kp : decide (0 < (k : Int)) = true := of_dec (by omega)
                                            have kp2 : decide (0 < k) = true := of_dec (by omega)
                                            have bb : decide ((10 : Int) = 10 ∧ 0 < k) = true := of_dec ⟨rfl, by omega⟩
                                            rw [bb]
                                            obtain ⟨q0, q1⟩ := HK1.out 1 (by omega)
                                            obtain ⟨b2, o2, hB, _, y0, _⟩ := ints_at HR.out (show 1 < kids.length by omega)
                                            simp only [Option.some.injEq, Addr.mk.injEq, and_true] at hB
                                            obtain ⟨hB1, hB2⟩ := hB
                                            subst hB1 hB2
                                            have K0 : rdI kids 1 = (kidN ⟨10, fn, kids, num⟩ 1 : Int) := by show rdI kids 1 = ((rdI kids 1).toNat : Int); omega
                                            have K1 : kidN ⟨10, fn, kids, num⟩ 1 < S.ofs.length := by have := HLO.out; omega
                                            have z0 := HEr.out.cell (HOF.out.int_at (k := kidN ⟨10, fn, kids, num⟩ 1) K1).1 (fun h => h)
                                            replace y0 := HEr.out.cell y0 (fun h => h)
                                            rw [K0] at y0
                                            have s2 : (0 : Int) ≤ (kidN ⟨10, fn, kids, num⟩ 1 : Int) := by omega
                                            have s3 : (kidN ⟨10, fn, kids, num⟩ 1 : Int) < (S.ofs.length : Int) := by omega
                                            have s4 : (1 : Int) < (kids.length : Int) := by omega
                                            have HWV : Hid (rdI S.ofs (kidN ⟨10, fn, kids, num⟩ 1) = want10 S.funs S.ofs 10 fn kids k) := Lib.hid (by rw [want10, if_pos (by omega)]; rfl)
                                            clear K0 K1 q0 q1 hk3
                                            generalize want11 S.funs S.ofs 10 fn kids k = w11 at *
                                            generalize rdI S.ofs (kidN ⟨10, fn, kids, num⟩ 1) = wv at *
                                            generalize kidN ⟨10, fn, kids, num⟩ 1 = kk at *
                                            clear y z
                                            go_wp2_with fail
                                            go_quiet (fail)
                                            go_wp2_with fail
                                            go_meet
                                            exact ⟨congrArg (Value.int .i64) HWV.out, _, World.drewN_drewN ..⟩
                                        · have b10 : (op == 10) = false := by rw [beq_eq_false_iff_ne]; exact e10
                                          have bb : decide (op = 10 ∧ 0 < k) = false := of_ndec (by omega)
                                          rw [bb]
                                          have HWV : Hid (want11 S.funs S.ofs op fn kids k = want10 S.funs S.ofs op fn kids k) := Lib.hid (by rw [want10, if_neg (by omega)])
                                          generalize want11 S.funs S.ofs op fn kids k = w11 at *
                                          clear y z
                                          go_wp2_with fail
                                          go_meet
                                          exact ⟨congrArg (Value.int .i64) HWV.out, _, rfl⟩
                                      case rest =>
                                        obtain ⟨rfl, n4, rfl⟩ := hcut
                                        have HWE : Hid (want10 S.funs S.ofs op fn kids k = wantedT S.funs S.ofs ⟨op, fn, kids, num⟩ k) := Lib.hid (want_eq ⟨HH2.out.1, HH2.out.2.1⟩ (by have hc := HC2.out; unfold CountOk at hc; omega))
                                        obtain ⟨wv, HWV⟩ : ∃ wv, Hid (want10 S.funs S.ofs op fn kids k = wv) := ⟨_, Lib.hid rfl⟩
                                        obtain ⟨ov, HOV⟩ : ∃ ov, Hid (rdI S.ofs (kidN ⟨op, fn, kids, num⟩ k) = ov) := ⟨_, Lib.hid rfl⟩
                                        rw [HWV.out]
                                        rw [HOV.out] at z
                                        go_upto_region 36 with fail
                                        by_cases q : ov = wv
                                        · have HWT2 : Hid (WantTo S.funs S.ofs ⟨op, fn, kids, num⟩ (k + 1)) := Lib.hid (by
                                            intro j hj
                                            by_cases e : j = k
                                            · subst e
                                              rw [HOV.out, q, ← HWV.out, HWE.out]
                                            · exact HWT1.out j (by omega))
                                          subst q
                                          have q0 : (ov != ov) = false := by simp
                                          go_quiet (fail)
                                          go_wp2_with fail
                                          refine (c_Constant HB.out (kidN ⟨op, fn, kids, num⟩ k + 1) (kidN ⟨op, fn, kids, num⟩ k) _ (Nat.lt_succ_self _) (H.out.ext (HEr.out.trans (Dr.n wr _).ext)) HKL.out).mono ?_
                                          rintro e w2 ⟨rfl, he⟩
                                          have HE2 := Lib.hid (HEx.out.trans ((Dr.n wr _).ext.trans he))
                                          have HFR : Hid (freeTo (constsTo S.terms S.terms.length) ⟨op, fn, kids, num⟩ (k + 1) = freeTo (constsTo S.terms S.terms.length) ⟨op, fn, kids, num⟩ k + (if rdB (constsTo S.terms S.terms.length) (kidN ⟨op, fn, kids, num⟩ k) then 0 else 1)) := Lib.hid rfl
                                          have hfle := freeTo_le (constsTo S.terms S.terms.length) ⟨op, fn, kids, num⟩ k
                                          replace x0 := he.cell ((Dr.n wr _).ext.cell x0 (fun h : NoB _ => h)) (fun h => h)
                                          clear he
                                          generalize freeTo (constsTo S.terms S.terms.length) ⟨op, fn, kids, num⟩ k = fr at *
                                          generalize rdB (constsTo S.terms S.terms.length) (kidN ⟨op, fn, kids, num⟩ k) = cb at *
                                          cases cb
                                          · go_wp2_with fail
                                            go_roundw
                                            case rel => (repeat apply Exists.intro); exact ⟨(show k + 1 ≤ kids.length by omega), by go_num, by rw [HFR.out]; go_num, Lib.hid ⟨HWT2.out, HE2.out⟩⟩
                                            all_goals (simp [intOf]; omega)
                                          · go_wp2_with fail
                                            go_roundw
                                            case rel => (repeat apply Exists.intro); exact ⟨(show k + 1 ≤ kids.length by omega), by go_num, by rw [HFR.out]; go_num, Lib.hid ⟨HWT2.out, HE2.out⟩⟩
                                            all_goals (simp [intOf]; omega)
                                        · have q0 : (ov != wv) = true := by rw [bne_iff_ne]; exact q
                                          clear q
                                          go_quiet (fail)
                                          go_wp2_with fail
                                          go_ret2
                                          exact ⟨_, _, rfl, HEr.out.trans (Dr.nn _ _ _).ext, WrongRes.no (by decide)⟩
                          · obtain rfl : k = kids.length := by omega
                            clear hk hlt
                            obtain ⟨fr, HFRE⟩ : ∃ fr : Nat, Hid (freeTo (constsTo S.terms S.terms.length) ⟨op, fn, kids, num⟩ kids.length = fr) := ⟨_, Lib.hid rfl⟩
                            rw [HFRE.out]
                            go_upto_region 40 with fail
                            by_cases e19 : op = 19
                            · subst e19
                              by_cases q : 1 < fr
                              · have b0 : decide (1 < (fr : Int)) = true := of_dec (by omega)
                                have b1 : decide (1 < fr) = true := of_dec q
                                clear q
                                go_wp2_with fail
                                go_ret2
                                exact ⟨_, _, rfl, HEr.out, WrongRes.no (by decide)⟩
                              · have b0 : decide (1 < (fr : Int)) = false := of_ndec (by omega)
                                have b1 : decide (1 < fr) = false := of_ndec q
                                have HOK : Hid (TermOk S.funs S.terms.length S.ofs (constsTo S.terms S.terms.length) ⟨19, fn, kids, num⟩) := Lib.hid (termOk_of HH2.out HN.out HF2.out HK1.out HC2.out HAP2.out HWT1.out (fun _ => by rw [HFRE.out]; omega))
                                clear q
                                go_wp2_with fail
                                go_ret2
                                exact ⟨_, _, rfl, HEr.out, fun _ => ⟨HOK.out, by simp [resultT]⟩⟩
                            have c19 : (op == 19) = false := by rw [beq_eq_false_iff_ne]; exact e19
                            have HOK : Hid (TermOk S.funs S.terms.length S.ofs (constsTo S.terms S.terms.length) ⟨op, fn, kids, num⟩) := Lib.hid (termOk_of HH2.out HN.out HF2.out HK1.out HC2.out HAP2.out HWT1.out (fun e => absurd e e19))
                            by_cases e3 : op = 3
                            · subst e3
                              obtain ⟨f0, f1⟩ := HF2.out rfl
                              obtain ⟨m, rfl⟩ : ∃ m : Nat, fn = (m : Int) := ⟨fn.toNat, by omega⟩
                              obtain ⟨f, hf⟩ := at_some (show m < S.funs.length by omega)
                              obtain ⟨g, gc, hv⟩ := H.out.funs.form (by omega)
                              obtain rfl : Tf = some ⟨g, 0, none⟩ := by
                                have := HTf.out.symm.trans hv
                                injection this
                              have hfu := H.out.funs
                              rw [hv] at hfu
                              obtain ⟨Fa, fd, ⟨y0, y1, y2⟩, _, _, _⟩ := hfu.fun_at hf
                              replace y2 := HEr.out.cell y2 (fun h => h)
                              have HRS : Hid (f.result = resultT S.funs S.ofs ⟨3, (m : Int), kids, num⟩) := Lib.hid (by rw [resultT, if_pos rfl, funAt_eq hf])
                              have g1 : (m : Int) < (S.funs.length : Int) := by omega
                              clear hv hfu y0 y1 hf f1
                              go_wp2_with fail
                              go_quiet (fail)
                              go_wp2_with fail
                              go_ret2
                              exact ⟨_, _, rfl, HEr.out.trans (Dr.n _ _).ext, fun _ => ⟨HOK.out, HRS.out⟩⟩
                            have c3 : (op == 3) = false := by rw [beq_eq_false_iff_ne]; exact e3
                            by_cases e10 : op = 10
                            · subst e10
                              have hk3 : kids.length = 3 := HC2.out.2.2.1 rfl
                              obtain ⟨q0, q1⟩ := HK1.out 1 (by omega)
                              obtain ⟨b2, o2, rfl, _, y0, _⟩ := ints_at HR.out (show 1 < kids.length by omega)
                              have K0 : rdI kids 1 = (kidN ⟨10, fn, kids, num⟩ 1 : Int) := by show rdI kids 1 = ((rdI kids 1).toNat : Int); omega
                              have K1 : kidN ⟨10, fn, kids, num⟩ 1 < S.ofs.length := by have := HLO.out; omega
                              obtain ⟨go, oc, hOv⟩ := H.out.ofs.form (by omega)
                              have hof := H.out.ofs
                              have c3 := HEr.out.cell H.out.c3 (fun h => h)
                              rw [hOv] at hof c3
                              have z0 := HEr.out.cell (hof.int_at (k := kidN ⟨10, fn, kids, num⟩ 1) K1).1 (fun h => h)
                              replace y0 := HEr.out.cell y0 (fun h => h)
                              rw [K0] at y0
                              have s2 : (0 : Int) ≤ (kidN ⟨10, fn, kids, num⟩ 1 : Int) := by omega
                              have s3 : (kidN ⟨10, fn, kids, num⟩ 1 : Int) < (S.ofs.length : Int) := by omega
                              have s4 : (1 : Int) < (kids.length : Int) := by omega
                              have HRS : Hid (rdI S.ofs (kidN ⟨10, fn, kids, num⟩ 1) = resultT S.funs S.ofs ⟨10, fn, kids, num⟩) := Lib.hid (by rw [resultT, if_neg (by simp), if_pos rfl])
                              clear K0 K1 q0 q1 hk3 hof hOv
                              generalize rdI S.ofs (kidN ⟨10, fn, kids, num⟩ 1) = wv at *
                              generalize kidN ⟨10, fn, kids, num⟩ 1 = kk at *
                              go_wp2_with fail
                              go_quiet (fail)
                              go_wp2_with fail
                              go_ret2
                              exact ⟨_, _, rfl, HEr.out.trans (Dr.n _ _).ext, fun _ => ⟨HOK.out, HRS.out⟩⟩
                            have c10 : (op == 10) = false := by rw [beq_eq_false_iff_ne]; exact e10
                            by_cases e4 : op = 4
                            · subst e4
                              go_wp2_with fail
                              go_ret2
                              exact ⟨_, _, rfl, HEr.out, fun _ => ⟨HOK.out, by simp [resultT]⟩⟩
                            have c4 : (op == 4) = false := by rw [beq_eq_false_iff_ne]; exact e4
                            by_cases e17 : 17 ≤ op
                            · have b17 : decide (17 ≤ op) = true := of_dec e17
                              have HRS : Hid (1 = resultT S.funs S.ofs ⟨op, fn, kids, num⟩) := Lib.hid (by have := HH2.out.2.1; rw [resultT, if_neg e3, if_neg e10, if_pos (by simp only; omega)])
                              clear e3 e10 e4 e17 e19
                              go_wp2_with fail
                              go_ret2
                              exact ⟨_, _, rfl, HEr.out, fun _ => ⟨HOK.out, HRS.out⟩⟩
                            · have b17 : decide (17 ≤ op) = false := of_ndec e17
                              have HRS : Hid (0 = resultT S.funs S.ofs ⟨op, fn, kids, num⟩) := Lib.hid (by rw [resultT, if_neg e3, if_neg e10, if_neg (by simp only; omega)])
                              clear e3 e10 e4 e17 e19
                              go_wp2_with fail
                              go_ret2
                              exact ⟨_, _, rfl, HEr.out, fun _ => ⟨HOK.out, HRS.out⟩⟩
end
end Go.Proofs.YtfpmapbimhdafaaGreatDoor
