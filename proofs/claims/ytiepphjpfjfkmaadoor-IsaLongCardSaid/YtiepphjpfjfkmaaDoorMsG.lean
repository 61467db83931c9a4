/- MsD, MsE, MsF, MsG, one after the other. -/
import Derived.Test.YtiepphjpfjfkmaaDoorMsC
import Derived.Test.YtiepphjpfjfkmaaDoorDgJ
set_option linter.unusedVariables false
set_option linter.unusedSimpArgs false
/- Costs: isa and the reference. -/
namespace Go.Proofs.Sat
open Go Go.RowKit
set_option maxRecDepth 20000 in
set_option maxHeartbeats 1000000 in
theorem isa_Cost (S : Nat → Prop) (c : Cd) (p : CdAt) (w : World) (h : CdRd S w c p) (hl : c.ins.length ≤ 1000000) : Calls Tryd.prog 17 #[cdVal c p] w fun e w' => e = .returned (.int .i64 (costI c.ins)) ∧ Below w.heap.size w w' := by
  obtain ⟨ia, ic, oa, oc⟩ := p
  have BW := Lib.hid (below_alloc (Below.refl w.heap.size w) (.cells #[.int .i64 c.width, .int .i64 c.regs, .slice ia c.ins.length ic, .slice oa c.out.length oc] 36))
  have KC := Lib.hid (heap_alloc_new w (.cells #[.int .i64 c.width, .int .i64 c.regs, .slice ia c.ins.length ic, .slice oa c.out.length oc] 36))
  have HI : Hid (Rd kIn S w ia ic c.ins) := h.ins
  clear h
  unfold cdVal
  go_enter Tryd.func17, Tryd.ntmps17
  obtain ⟨z0, z1, z2, z3⟩ := cd_block4 KC.out
  go_wp2_with fail
  clear z0 z1 z2 z3
  go_loopw [3, 9] (fun s i wr => ∃ (k : Nat) (v : Int), k ≤ c.ins.length ∧ s = .int .i64 v ∧ i = .int .i64 k ∧ Hid (v = costI (c.ins.take k)) ∧ Hid (Below w.heap.size w wr)) (fun _ i _ => c.ins.length - (intOf i).toNat)
  case atStart => exact ⟨0, 0, by omega, rfl, rfl, by show _ = _; rw [List.take_zero]; rfl, BW.out⟩
  case round =>
    obtain ⟨k, v, hk, rfl, rfl, HV, HB⟩ := hrel
    by_cases hlt : k < c.ins.length
    · have hkl : (k : Int) < (c.ins.length : Int) := by omega
      obtain ⟨b, o, rfl, -, -, hat⟩ := in_elem (HI.out.frame (Same.below HB.out)) hlt
      obtain ⟨c0, c1, c2, c3, c4, c5⟩ := hat
      have HT : Hid (costI (c.ins.take (k + 1)) = v + priceI c.ins[k].op) := by show _ = _; rw [List.take_succ_eq_append_getElem hlt, cost_snoc, HV.out]
      have hv := cost_le (c.ins.take k)
      rw [← HV.out, List.length_take] at hv
      have hp := price_le c.ins[k].op
      generalize c.ins[k] = x at *
      have hw : IntKind.i64.wrap (v + priceI x.op) = v + priceI x.op := IntWalk.i64_in _ (by omega)
      have CP := Lib.hid (fun W => isa_Price x.op W)
      generalize priceI x.op = pr at *
      obtain ⟨v2, hv2⟩ : ∃ v2, v2 = v + pr := ⟨_, rfl⟩
      replace hw := hw.trans hv2.symm
      rw [← hv2] at HT
      have hb := HB.out.size
      clear hv hp hv2
      go_wp2_with (first
        | (go_at_call 26; refine (CP.out _).mono ?_; rintro e w5 ⟨rfl, d5⟩; have B5 := Lib.hid ((below_alloc HB.out _).trans (d5.below w.heap.size)); clear d5)
        | fail)
      go_roundw
      case rel => exact ⟨k + 1, v2, by omega, rfl, by go_num, HT.out.symm, B5.out⟩
      case measure => simp [intOf]; omega
    · have hnl : ¬ ((k : Int) < (c.ins.length : Int)) := by omega
      have HE : Hid (v = costI c.ins) := by show _ = _; rw [HV.out, List.take_of_length_le (by omega)]
      clear hlt hk
      go_wp2_with fail
      go_ret
      exact ⟨ret_int HE.out, HB.out⟩
end Go.Proofs.Sat
/- The reference's texts: regs, line, Print. -/
namespace Go.Proofs.Sat
open Go Go.RowKit
theorem str_add (a b : List UInt8) (h : a.length + b.length ≤ 140737488355328) (W : World) : (Op.stringOp .add (strOf a) (strOf b)).run Tryd.prog W = .ok (.string (strOf (a ++ b))) W := by
  rw [run_string_add_sum W _ _ (by rw [strOf_size, strOf_size]; omega), strOf_append]
theorem regsL_snoc (l : List Int) (r : Int) : regsL (l ++ [r]) = (regsL l ++ [32, 114]) ++ Lib.itoa r := by
  unfold regsL regWd
  rw [List.flatMap_append]
  simp
theorem regsL_len {l : List Int} (h : IntsOK l) : (regsL l).length ≤ 68 * l.length := by
  induction l with
  | nil => simp [regsL]
  | cons r l ih =>
    have h1 := itoa_len (h r (by simp))
    have h2 := ih (fun x hx => h x (by simp [hx]))
    unfold regsL regWd at h2 ⊢
    rw [List.flatMap_cons, List.length_append, List.length_cons, List.length_cons, List.length_cons]
    omega
/-- An instruction whose fields are numbers of their types. -/
structure InOK (x : In) : Prop where
  dst : -9223372036854775808 ≤ x.dst ∧ x.dst ≤ 9223372036854775807
  use : IntsOK [x.a, x.b, x.c]
  imm : 0 ≤ x.imm ∧ x.imm < 18446744073709551616
theorem InOK.uses {x : In} (h : InOK x) : IntsOK (usesI x) := fun r hr => h.use r (List.mem_of_mem_take hr)
theorem InOK.defs {x : In} (h : InOK x) : -9223372036854775808 ≤ defD x ∧ defD x ≤ 9223372036854775807 := by
  unfold defD
  split
  · exact h.dst
  · omega
/-- The parts of a line. -/
def lineA (x : In) : List UInt8 := nameL x.op ++ (if defsI x = true then regsL [x.dst] else [])
def lineB (x : In) : List UInt8 := lineA x ++ (if x.op = 1 then 32 :: wrL 10 x.imm.toNat else [])
theorem line_parts (x : In) : lineL x = lineB x ++ regsL (usesI x) := by
  unfold lineL lineB lineA
  simp [List.append_assoc]
theorem nameL_len (op : Int) : (nameL op).length ≤ 4 := by
  cases hk : knownI op
  · rw [nameL_none hk]; simp
  · rcases known_cases hk with e | e | e | e | e | e | e | e | e | e | e | e | e | e | e | e | e | e | e | e <;> rw [e] <;> decide
theorem lineA_len {x : In} (h : InOK x) : (lineA x).length ≤ 72 := by
  have h1 := nameL_len x.op
  unfold lineA
  rw [List.length_append]
  split
  · have := regsL_len (l := [x.dst]) (fun r hr => by rw [List.mem_singleton.1 hr]; exact h.dst)
    simp at this
    omega
  · simp; omega
theorem lineB_len {x : In} (h : InOK x) : (lineB x).length ≤ 138 := by
  have h1 := lineA_len h
  unfold lineB
  rw [List.length_append]
  split
  · have := wr_len64 (b := 10) (x := x.imm.toNat) (by omega) (by have := h.imm; omega)
    simp; omega
  · simp; omega
theorem lineL_len {x : In} (h : InOK x) : (lineL x).length ≤ 342 := by
  have h1 := lineB_len h
  have h2 := regsL_len h.uses
  have h3 := usesI_length x
  rw [line_parts, List.length_append]
  omega
end Go.Proofs.Sat
/- The reference's Print. -/
namespace Go.Proofs.Sat
open Go Go.RowKit
/-- A program whose fields are numbers of their types. -/
structure CdOK (c : Cd) : Prop where
  width : -9223372036854775808 ≤ c.width ∧ c.width ≤ 9223372036854775807
  regs : -9223372036854775808 ≤ c.regs ∧ c.regs ≤ 9223372036854775807
  ins : ∀ x ∈ c.ins, InOK x
  out : IntsOK c.out
def linesT (l : List In) : List UInt8 := l.flatMap fun x => lineL x ++ [10]
theorem linesT_snoc (l : List In) (x : In) : linesT (l ++ [x]) = (linesT l ++ lineL x) ++ [10] := by unfold linesT; rw [List.flatMap_append]; simp
theorem linesT_len {l : List In} (h : ∀ x ∈ l, InOK x) : (linesT l).length ≤ 343 * l.length := by
  induction l with
  | nil => simp [linesT]
  | cons x l ih =>
    have h1 := lineL_len (h x (by simp))
    have h2 := ih (fun y hy => h y (by simp [hy]))
    unfold linesT at h2 ⊢
    rw [List.flatMap_cons]
    simp only [List.length_append, List.length_cons, List.length_nil]
    omega
theorem headL_len {w n : Int} (hw : -9223372036854775808 ≤ w ∧ w ≤ 9223372036854775807) (hn : -9223372036854775808 ≤ n ∧ n ≤ 9223372036854775807) : (headL w n).length ≤ 144 := by
  have h4 := itoa_len hw
  have h5 := itoa_len hn
  unfold headL
  simp only [List.length_append, List.length_cons, List.length_nil]
  omega
/-- The first line, ended. -/
def headT (c : Cd) : List UInt8 := headL c.width c.regs ++ [10]
theorem print_parts (c : Cd) : printL c = (((headT c ++ linesT c.ins) ++ wOut) ++ regsL c.out) ++ [10] := by
  unfold printL headT linesT
  simp [List.append_assoc]
theorem head_parts (c : Cd) : headT c = ((([119, 105, 100, 116, 104, 32] ++ Lib.itoa c.width) ++ [32, 114, 101, 103, 115, 32]) ++ Lib.itoa c.regs) ++ [10] := by
  unfold headT headL
  simp
end Go.Proofs.Sat
/- isa.line. -/
namespace Go.Proofs.Sat
open Go Go.RowKit
/-- What the variables of the program and of the library hold. -/
structure MsT (w : World) : Prop where
  isa : IsaT w
  nam : NamT w
  dig : DigT w
theorem MsT.below {w w' : World} (h : MsT w) (hb : Below w.heap.size w w') : MsT w' := ⟨h.isa.below hb, h.nam.below hb, h.dig.below hb⟩
theorem MsT.drawn {w w' : World} (h : MsT w) (hd : Drawn w w') : MsT w' := h.below (hd.below _)
theorem line_unknown {x : In} (h : knownI x.op = false) : lineL x = [] := by
  have hd : defsI x = false := by
    unfold knownI at h
    rw [decide_eq_false_iff_not] at h
    unfold defsI
    exact decide_eq_false (by omega)
  have h1 : x.op ≠ 1 := fun e => by rw [e] at h; cases h
  unfold lineL usesI
  rw [nameL_none h, hd, known_false h, if_neg h1]
  rfl
theorem regsL_one (r : Int) : regsL [r] = [32, 114] ++ Lib.itoa r := by unfold regsL regWd; simp
theorem regsL_snoc2 (l : List Int) (r : Int) : regsL (l ++ [r]) = regsL l ++ ([32, 114] ++ Lib.itoa r) := by rw [regsL_snoc, List.append_assoc]
set_option maxRecDepth 20000 in
set_option maxHeartbeats 4000000 in
theorem isa_line (x : In) (w : World) (hT : MsT w) (hx : InOK x) : Calls Tryd.prog 29 #[inVal x] w fun e w' => e = .returned (.string (strOf (lineL x))) ∧ Below w.heap.size w w' := by
  have BX := Lib.hid (below_alloc (Below.refl w.heap.size w) (.cells #[.int .i64 x.op, .int .i64 x.dst, .int .i64 x.a, .int .i64 x.b, .int .i64 x.c, .int .u64 x.imm] 25))
  have KX := Lib.hid (heap_alloc_new w (.cells #[.int .i64 x.op, .int .i64 x.dst, .int .i64 x.a, .int .i64 x.b, .int .i64 x.c, .int .u64 x.imm] 25))
  have HT := Lib.hid hT
  have CK := Lib.hid (fun W => isa_known x.op W)
  go_enter Tryd.func29, Tryd.ntmps29
  obtain ⟨y0, y1, y2, y3, y4, y5⟩ := in_block KX.out
  cases hk : knownI x.op
  · rw [hk] at CK
    rw [line_unknown hk]
    clear hk hT
    go_wp2_with fail
    refine (CK.out _).mono ?_
    rintro e w1 ⟨rfl, d1⟩
    have B1 := Lib.hid (BX.out.trans (d1.below w.heap.size))
    clear d1
    go_wp2_with fail
    go_ret
    exact ⟨rfl, B1.out⟩
  rw [hk] at CK
  have CN := Lib.hid (fun W hW => isa_Name x.op W hW)
  have CD := Lib.hid (fun W => isa_Def x W)
  have CU := Lib.hid (fun W hW => isa_Uses x W hW)
  have CI := Lib.hid (fun (r : Int) (hr : -9223372036854775808 ≤ r ∧ r ≤ 9223372036854775807) W hW => digits_Int r W hr.1 hr.2 hW)
  have hi64 : x.imm.toNat < 18446744073709551616 := by have := hx.imm; omega
  have hit : ((x.imm.toNat : Nat) : Int) = x.imm := Int.toNat_of_nonneg hx.imm.1
  have CM := Lib.hid (fun W hW => digits_Dec x.imm.toNat W hi64 hW)
  rw [hit] at CM
  have hA := lineA_len hx
  have hB := lineB_len hx
  have HLA : Hid (lineA x = nameL x.op ++ (if defsI x = true then regsL [x.dst] else [])) := rfl
  have HLB : Hid (lineB x = lineA x ++ (if x.op = 1 then 32 :: wrL 10 x.imm.toNat else [])) := rfl
  have HLL := Lib.hid (line_parts x)
  have HUS := Lib.hid hx.uses
  have hul := usesI_length x
  have HDF := Lib.hid hx.defs
  have HDD : Hid (defsI x = true → defD x = x.dst) := fun h => by unfold defD; rw [if_pos h]
  have HDE : Hid ((if defsI x = true then x.dst else 0) = defD x) := rfl
  have HAD := Lib.hid (fun (a b : List UInt8) (hab : a.length + b.length ≤ 100000000) => str_add a b (by omega))
  rw [HDE.out] at CD
  generalize nameL x.op = nm at *
  generalize lineA x = la at *
  generalize lineB x = lb at *
  generalize lineL x = ll at *
  clear hit hi64 hT HDE
  go_wp2_with fail
  refine (CK.out _).mono ?_
  rintro e w1 ⟨rfl, d1⟩
  have B1 := Lib.hid (BX.out.trans (d1.below w.heap.size))
  have K1 := Lib.hid (d1.heap KX.out)
  clear d1 y0 y1 y2 y3 y4 y5 CK
  obtain ⟨y0, y1, y2, y3, y4, y5⟩ := in_block K1.out
  go_wp2_with fail
  refine (CN.out _ (HT.out.below B1.out).nam).mono ?_
  rintro e w2 ⟨rfl, d2⟩
  have B2 := Lib.hid (B1.out.trans (d2.below w.heap.size))
  have K2 := Lib.hid (d2.heap K1.out)
  clear d2 y0 y1 y2 y3 y4 y5 CN
  obtain ⟨y0, y1, y2, y3, y4, y5⟩ := in_block K2.out
  go_wp2_with fail
  refine (CD.out _).mono ?_
  rintro e w3 ⟨rfl, b3⟩
  have B3 := Lib.hid (below_both B2.out b3)
  have K3 := Lib.hid (block_below b3 K2.out)
  clear b3 y0 y1 y2 y3 y4 y5 CD
  obtain ⟨y0, y1, y2, y3, y4, y5⟩ := in_block K3.out
  cases hd : defsI x
  · rw [hd] at HLA
    have hop : x.op ≠ 1 := fun e => by unfold defsI at hd; rw [e] at hd; simp at hd
    rw [if_neg hop] at HLB
    have e1 : lb = nm := by rw [HLB.out, HLA.out]; simp
    subst e1
    have t0 : (x.op == 1) = false := beqf hop
    clear HLA HLB hop hA CM HDF HDD hd hk
    go_wp2_with fail
    refine (CU.out _ (HT.out.below B3.out).isa).mono ?_
    rintro e wu ⟨au, cu, rfl, ru, bu⟩
    have RU := Lib.hid ru
    have BU := Lib.hid (below_both B3.out bu)
    clear bu ru y0 y1 y2 y3 y4 y5
    generalize usesI x = us at *
    obtain ⟨n, hn⟩ : ∃ n, n = us.length := ⟨_, rfl⟩
    have HN := Lib.hid hn
    rw [← hn] at hul
    rw [← hn]
    clear hn
    go_wp2_with fail
    go_loopw [3, 38] (fun ss is wr => ∃ (k : Nat) (cur : List UInt8), k ≤ n ∧ ss = .string (strOf cur) ∧ is = .int .i64 k ∧ Hid (cur = lb ++ regsL (us.take k)) ∧ Hid (Below wu.heap.size wu wr)) (fun _ is _ => n - (intOf is).toNat)
    case atStart => exact ⟨0, lb, by omega, rfl, rfl, by show _ = _; rw [List.take_zero]; simp [regsL], by first | exact Below.refl _ _ | exact (Drawn.of _ _).below _⟩
    case round =>
      obtain ⟨k, cur, hk9, rfl, rfl, HC, HB⟩ := hrel
      by_cases hlt : k < n
      · have HLT : Hid (k < us.length) := by show _ < _; rw [← HN.out]; exact hlt
        have hkl : (k : Int) < (n : Int) := by omega
        obtain ⟨b, o, rfl, -, -, hc⟩ := (RU.out.frame (Same.below HB.out)).vals (by have := HLT.out; omega) 0
        have d5 := hc k HLT.out
        rw [getD_at _ HLT.out] at d5
        have hr := HUS.out _ (List.getElem_mem HLT.out)
        have hcl : cur.length ≤ 400 := by
          have h1 := regsL_len (l := us.take k) (fun r hr => HUS.out r (List.mem_of_mem_take hr))
          rw [List.length_take] at h1
          rw [HC.out, List.length_append]
          omega
        have HE : Hid (cur ++ ([32, 114] ++ Lib.itoa (us[k]'HLT.out)) = lb ++ regsL (us.take (k + 1))) := by
          show _ = _
          rw [HC.out, List.take_succ_eq_append_getElem HLT.out, regsL_snoc2]
          simp only [List.append_assoc]
        have hil := itoa_len hr
        have CIR := Lib.hid (fun W hW => CI.out (us[k]'HLT.out) hr W hW)
        generalize us[k]'HLT.out = r at *
        generalize Lib.itoa r = it at *
        have q1 : ∀ W : World, (Op.stringOp .add { data := #[32, 114] } (strOf it)).run Tryd.prog W = .ok (.string (strOf ([32, 114] ++ it))) W := HAD.out [32, 114] it (by show 2 + _ ≤ _; omega)
        have ql : ([32, 114] ++ it).length ≤ 68 := by rw [List.length_append]; show 2 + _ ≤ _; omega
        generalize [32, 114] ++ it = it2 at *
        have q2 := HAD.out cur it2 (by omega)
        generalize cur ++ it2 = cu2 at *
        clear hc hr hcl hil ql
        go_wp2_with (first
          | (go_at_call 28; refine (CIR.out _ ((HT.out.below BU.out).below HB.out).dig).mono ?_; rintro e w9 ⟨rfl, b9⟩; have B9 := Lib.hid (below_then HB.out HB.out.size b9); clear b9)
          | fail)
        go_roundw
        case rel => exact ⟨k + 1, cu2, by omega, rfl, by go_num, HE.out, B9.out⟩
        case measure => simp [intOf]; omega
      · have hnl : ¬ ((k : Int) < (n : Int)) := by omega
        have HE : Hid (cur = ll) := by show _ = _; rw [HC.out, List.take_of_length_le (by have := HN.out; omega), HLL.out]
        clear hlt hk9
        go_wp2_with fail
        go_ret
        exact ⟨by rw [HE.out]; rfl, below_both BU.out HB.out⟩
  · rw [hd] at HLA
    have hdd := HDD.out hd
    have CID := Lib.hid (fun W hW => CI.out (defD x) HDF.out W hW)
    have hil := itoa_len HDF.out
    rw [if_pos rfl, regsL_one, ← hdd] at HLA
    generalize defD x = dd at *
    generalize Lib.itoa dd = it at *
    have q1 : ∀ W : World, (Op.stringOp .add { data := #[32, 114] } (strOf it)).run Tryd.prog W = .ok (.string (strOf ([32, 114] ++ it))) W := HAD.out [32, 114] it (by show 2 + _ ≤ _; omega)
    have ql : ([32, 114] ++ it).length ≤ 68 := by rw [List.length_append]; show 2 + _ ≤ _; omega
    generalize [32, 114] ++ it = it2 at *
    have q2 : ∀ W : World, (Op.stringOp .add (strOf nm) (strOf it2)).run Tryd.prog W = .ok (.string (strOf la)) W := by
      have h := congrArg List.length HLA.out
      rw [List.length_append] at h
      rw [HLA.out]
      exact HAD.out nm it2 (by omega)
    clear HDD hdd hil ql hd hk
    go_wp2_with fail
    refine (CID.out _ (HT.out.below B3.out).dig).mono ?_
    rintro e w4 ⟨rfl, b4⟩
    have B4 := Lib.hid (below_both B3.out b4)
    have K4 := Lib.hid (block_below b4 K3.out)
    clear b4 y0 y1 y2 y3 y4 y5 CID
    obtain ⟨y0, y1, y2, y3, y4, y5⟩ := in_block K4.out
    by_cases hop : x.op = 1
    · have t0 : (x.op == 1) = true := by rw [hop]; rfl
      rw [if_pos hop] at HLB
      have HLB2 : Hid (lb = la ++ ([32] ++ wrL 10 x.imm.toNat)) := by show _ = _; rw [HLB.out]; rfl
      have hwl : (wrL 10 x.imm.toNat).length ≤ 138 := by
        have h := congrArg List.length HLB2.out
        rw [List.length_append, List.length_append] at h
        omega
      generalize wrL 10 x.imm.toNat = wd at *
      have q3 : ∀ W : World, (Op.stringOp .add { data := #[32] } (strOf wd)).run Tryd.prog W = .ok (.string (strOf ([32] ++ wd))) W := HAD.out [32] wd (by show 1 + _ ≤ _; omega)
      have ql : ([32] ++ wd).length ≤ 139 := by rw [List.length_append]; show 1 + _ ≤ _; omega
      generalize [32] ++ wd = wd2 at *
      have q4 : ∀ W : World, (Op.stringOp .add (strOf la) (strOf wd2)).run Tryd.prog W = .ok (.string (strOf lb)) W := by
        rw [HLB2.out]
        exact HAD.out la wd2 (by omega)
      clear HLA HLB hop hA ql hwl
      go_wp2_with fail
      refine (CM.out _ (HT.out.below B4.out).dig.pow).mono ?_
      rintro e w5 ⟨rfl, b5⟩
      have B5 := Lib.hid (below_both B4.out b5)
      have K5 := Lib.hid (block_below b5 K4.out)
      clear b5 y0 y1 y2 y3 y4 y5 CM
      obtain ⟨y0, y1, y2, y3, y4, y5⟩ := in_block K5.out
      go_wp2_with fail
      refine (CU.out _ (HT.out.below B5.out).isa).mono ?_
      rintro e wu ⟨au, cu, rfl, ru, bu⟩
      have RU := Lib.hid ru
      have BU := Lib.hid (below_both B5.out bu)
      clear bu ru y0 y1 y2 y3 y4 y5
      generalize usesI x = us at *
      obtain ⟨n, hn⟩ : ∃ n, n = us.length := ⟨_, rfl⟩
      have HN := Lib.hid hn
      rw [← hn] at hul
      rw [← hn]
      clear hn
      go_wp2_with fail
      go_loopw [3, 38] (fun ss is wr => ∃ (k : Nat) (cur : List UInt8), k ≤ n ∧ ss = .string (strOf cur) ∧ is = .int .i64 k ∧ Hid (cur = lb ++ regsL (us.take k)) ∧ Hid (Below wu.heap.size wu wr)) (fun _ is _ => n - (intOf is).toNat)
      case atStart => exact ⟨0, lb, by omega, rfl, rfl, by show _ = _; rw [List.take_zero]; simp [regsL], by first | exact Below.refl _ _ | exact (Drawn.of _ _).below _⟩
      case round =>
        obtain ⟨k, cur, hk9, rfl, rfl, HC, HB⟩ := hrel
        by_cases hlt : k < n
        · have HLT : Hid (k < us.length) := by show _ < _; rw [← HN.out]; exact hlt
          have hkl : (k : Int) < (n : Int) := by omega
          obtain ⟨b, o, rfl, -, -, hc⟩ := (RU.out.frame (Same.below HB.out)).vals (by have := HLT.out; omega) 0
          have d5 := hc k HLT.out
          rw [getD_at _ HLT.out] at d5
          have hr := HUS.out _ (List.getElem_mem HLT.out)
          have hcl : cur.length ≤ 400 := by
            have h1 := regsL_len (l := us.take k) (fun r hr => HUS.out r (List.mem_of_mem_take hr))
            rw [List.length_take] at h1
            rw [HC.out, List.length_append]
            omega
          have HE : Hid (cur ++ ([32, 114] ++ Lib.itoa (us[k]'HLT.out)) = lb ++ regsL (us.take (k + 1))) := by
            show _ = _
            rw [HC.out, List.take_succ_eq_append_getElem HLT.out, regsL_snoc2]
            simp only [List.append_assoc]
          have hil := itoa_len hr
          have CIR := Lib.hid (fun W hW => CI.out (us[k]'HLT.out) hr W hW)
          generalize us[k]'HLT.out = r at *
          generalize Lib.itoa r = it at *
          have q1 : ∀ W : World, (Op.stringOp .add { data := #[32, 114] } (strOf it)).run Tryd.prog W = .ok (.string (strOf ([32, 114] ++ it))) W := HAD.out [32, 114] it (by show 2 + _ ≤ _; omega)
          have ql : ([32, 114] ++ it).length ≤ 68 := by rw [List.length_append]; show 2 + _ ≤ _; omega
          generalize [32, 114] ++ it = it2 at *
          have q2 := HAD.out cur it2 (by omega)
          generalize cur ++ it2 = cu2 at *
          clear hc hr hcl hil ql
          go_wp2_with (first
            | (go_at_call 28; refine (CIR.out _ ((HT.out.below BU.out).below HB.out).dig).mono ?_; rintro e w9 ⟨rfl, b9⟩; have B9 := Lib.hid (below_then HB.out HB.out.size b9); clear b9)
            | fail)
          go_roundw
          case rel => exact ⟨k + 1, cu2, by omega, rfl, by go_num, HE.out, B9.out⟩
          case measure => simp [intOf]; omega
        · have hnl : ¬ ((k : Int) < (n : Int)) := by omega
          have HE : Hid (cur = ll) := by show _ = _; rw [HC.out, List.take_of_length_le (by have := HN.out; omega), HLL.out]
          clear hlt hk9
          go_wp2_with fail
          go_ret
          exact ⟨by rw [HE.out]; rfl, below_both BU.out HB.out⟩
    · have t0 : (x.op == 1) = false := beqf hop
      rw [if_neg hop] at HLB
      have e1 : lb = la := by rw [HLB.out]; simp
      subst e1
      clear HLA HLB hop hA CM
      go_wp2_with fail
      refine (CU.out _ (HT.out.below B4.out).isa).mono ?_
      rintro e wu ⟨au, cu, rfl, ru, bu⟩
      have RU := Lib.hid ru
      have BU := Lib.hid (below_both B4.out bu)
      clear bu ru y0 y1 y2 y3 y4 y5
      generalize usesI x = us at *
      obtain ⟨n, hn⟩ : ∃ n, n = us.length := ⟨_, rfl⟩
      have HN := Lib.hid hn
      rw [← hn] at hul
      rw [← hn]
      clear hn
      go_wp2_with fail
      go_loopw [3, 38] (fun ss is wr => ∃ (k : Nat) (cur : List UInt8), k ≤ n ∧ ss = .string (strOf cur) ∧ is = .int .i64 k ∧ Hid (cur = lb ++ regsL (us.take k)) ∧ Hid (Below wu.heap.size wu wr)) (fun _ is _ => n - (intOf is).toNat)
      case atStart => exact ⟨0, lb, by omega, rfl, rfl, by show _ = _; rw [List.take_zero]; simp [regsL], by first | exact Below.refl _ _ | exact (Drawn.of _ _).below _⟩
      case round =>
        obtain ⟨k, cur, hk9, rfl, rfl, HC, HB⟩ := hrel
        by_cases hlt : k < n
        · have HLT : Hid (k < us.length) := by show _ < _; rw [← HN.out]; exact hlt
          have hkl : (k : Int) < (n : Int) := by omega
          obtain ⟨b, o, rfl, -, -, hc⟩ := (RU.out.frame (Same.below HB.out)).vals (by have := HLT.out; omega) 0
          have d5 := hc k HLT.out
          rw [getD_at _ HLT.out] at d5
          have hr := HUS.out _ (List.getElem_mem HLT.out)
          have hcl : cur.length ≤ 400 := by
            have h1 := regsL_len (l := us.take k) (fun r hr => HUS.out r (List.mem_of_mem_take hr))
            rw [List.length_take] at h1
            rw [HC.out, List.length_append]
            omega
          have HE : Hid (cur ++ ([32, 114] ++ Lib.itoa (us[k]'HLT.out)) = lb ++ regsL (us.take (k + 1))) := by
            show _ = _
            rw [HC.out, List.take_succ_eq_append_getElem HLT.out, regsL_snoc2]
            simp only [List.append_assoc]
          have hil := itoa_len hr
          have CIR := Lib.hid (fun W hW => CI.out (us[k]'HLT.out) hr W hW)
          generalize us[k]'HLT.out = r at *
          generalize Lib.itoa r = it at *
          have q1 : ∀ W : World, (Op.stringOp .add { data := #[32, 114] } (strOf it)).run Tryd.prog W = .ok (.string (strOf ([32, 114] ++ it))) W := HAD.out [32, 114] it (by show 2 + _ ≤ _; omega)
          have ql : ([32, 114] ++ it).length ≤ 68 := by rw [List.length_append]; show 2 + _ ≤ _; omega
          generalize [32, 114] ++ it = it2 at *
          have q2 := HAD.out cur it2 (by omega)
          generalize cur ++ it2 = cu2 at *
          clear hc hr hcl hil ql
          go_wp2_with (first
            | (go_at_call 28; refine (CIR.out _ ((HT.out.below BU.out).below HB.out).dig).mono ?_; rintro e w9 ⟨rfl, b9⟩; have B9 := Lib.hid (below_then HB.out HB.out.size b9); clear b9)
            | fail)
          go_roundw
          case rel => exact ⟨k + 1, cu2, by omega, rfl, by go_num, HE.out, B9.out⟩
          case measure => simp [intOf]; omega
        · have hnl : ¬ ((k : Int) < (n : Int)) := by omega
          have HE : Hid (cur = ll) := by show _ = _; rw [HC.out, List.take_of_length_le (by have := HN.out; omega), HLL.out]
          clear hlt hk9
          go_wp2_with fail
          go_ret
          exact ⟨by rw [HE.out]; rfl, below_both BU.out HB.out⟩
end Go.Proofs.Sat
