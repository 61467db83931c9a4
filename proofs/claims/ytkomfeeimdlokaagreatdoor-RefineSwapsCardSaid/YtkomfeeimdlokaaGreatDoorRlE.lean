/- The walks of refine.Test and of ref53's Test. -/
import Derived.Test.YtkomfeeimdlokaaGreatDoorRlD
import Derived.Test.YtkomfeeimdlokaaGreatDoorRgC
set_option linter.unusedVariables false
set_option linter.unusedSimpArgs false
namespace Go.Proofs.Sat
open Go Go.RowKit
def tstK (c d : Cd) (ls : List (List Int)) : Option Nat := ls.findIdx? (showsB c d)
def tstI (c d : Cd) (ls : List (List Int)) : Int := if cmpErr c d ≠ 0 then -1 else match tstK c d ls with | some i => (i : Int) | none => -1
def tstB (c d : Cd) (ls : List (List Int)) : Bool := if cmpErr c d ≠ 0 then false else (tstK c d ls).isNone
theorem tstK_some {c d : Cd} {ls : List (List Int)} {i : Nat} (hi : i < ls.length) (hb : ∀ j (hj : j < ls.length), j < i → showsB c d ls[j] = false) (h : showsB c d ls[i] = true) : tstK c d ls = some i :=
  List.findIdx?_eq_some_iff_getElem.2 ⟨hi, h, fun j hj => by simp [hb j (by omega) hj]⟩
theorem tstK_none {c d : Cd} {ls : List (List Int)} (hb : ∀ j (hj : j < ls.length), showsB c d ls[j] = false) : tstK c d ls = none :=
  List.findIdx?_eq_none_iff.2 fun x hx => by
    obtain ⟨j, hj, rfl⟩ := List.getElem_of_mem hx
    exact hb j hj
theorem insErr_ne7 (width regs : Int) (x : In) : insErr width regs x ≠ 7 := by
  unfold insErr
  repeat' split
  all_goals decide
theorem insErrs_ne7 (width regs : Int) : ∀ l : List In, insErrs width regs l ≠ 7
  | [] => by simp [insErrs]
  | x :: l => by
    unfold insErrs
    split
    · exact insErrs_ne7 width regs l
    · exact insErr_ne7 _ _ _
theorem cdErr_ne7 {c : Cd} (h : c.ins.length ≤ 256) : cdErr c ≠ 7 := by
  unfold cdErr
  rw [if_neg (show ¬ 256 < c.ins.length by omega)]
  have := insErrs_ne7 c.width c.regs c.ins
  repeat' split
  all_goals first | decide | exact this
theorem cmpErr_ne7 {c d : Cd} (h : c.ins.length ≤ 256) (h' : d.ins.length ≤ 256) : cmpErr c d ≠ 7 := by
  unfold cmpErr
  have := cdErr_ne7 h
  have := cdErr_ne7 h'
  repeat' split
  all_goals first | decide | assumption
theorem ret_ibx {a a' : Int} {b b' : Bool} (h1 : a = a') (h2 : b = b') : Ending.returned (.tuple #[.int .i64 a, .bool b]) = .returned (.tuple #[.int .i64 a', .bool b']) := by rw [h1, h2]
set_option maxRecDepth 20000 in
set_option maxHeartbeats 4000000 in
theorem ref53_Test (S Sl : Nat → Prop) (c d : Cd) (p q : CdAt) (ls : List (List Int)) (a : Option Addr) (ca : Nat) (w : World) (h : CdRd S w c p) (h' : CdRd S w d q) (ho : c.out.length ≤ 20) (ho' : d.out.length ≤ 20) (hci : c.ins.length ≤ 256) (hdi : d.ins.length ≤ 256) (himm : ∀ x ∈ c.ins, 0 ≤ x.imm ∧ x.imm < 18446744073709551616) (himm' : ∀ x ∈ d.ins, 0 ≤ x.imm ∧ x.imm < 18446744073709551616) (hr : Rd (Kd.slice (Kd.int .u64)) Sl w a ca ls) (hl : ∀ l ∈ ls, ∀ x ∈ l, 0 ≤ x ∧ x < 18446744073709551616) :
    Calls Tryz.prog 19 #[cdVal c p, cdVal d q, .slice a ls.length ca] w fun e w' => e = .returned (.tuple #[.int .i64 (tstI c d ls), .bool (tstB c d ls)]) ∧ Below w.heap.size w w' := by
  have CC := Lib.hid (fun W (b : Below w.heap.size w W) => ref53_Comparable S c d p q W (h.frame (Same.below b)) (h'.frame (Same.below b)) himm himm')
  have CS := Lib.hid (fun W (b : Below w.heap.size w W) Sl l a ca (hr : Rd (Kd.int .u64) Sl W a ca l) (hl : ∀ x ∈ l, 0 ≤ x ∧ x < 18446744073709551616) => ref53_Shows S Sl c d p q l a ca W (h.frame (Same.below b)) (h'.frame (Same.below b)) ho ho' himm himm' hr hl)
  have HN7 := Lib.hid (cmpErr_ne7 hci hdi)
  obtain ⟨ia, ic, oa, oc⟩ := p
  obtain ⟨ja, jc, qa, qc⟩ := q
  have BW := Lib.hid (below_alloc (below_alloc (Below.refl w.heap.size w) (.cells (cellsC c ia ic oa oc) 25)) (.cells (cellsC d ja jc qa qc) 25))
  have KC := Lib.hid (block_alloc (heap_alloc_new w (.cells (cellsC c ia ic oa oc) 25)) (.cells (cellsC d ja jc qa qc) 25))
  have KD := Lib.hid (block_at1 w (.cells (cellsC c ia ic oa oc) 25) (.cells (cellsC d ja jc qa qc) 25))
  have HR := Lib.hid hr
  have HL := Lib.hid hl
  have hll := hr.le
  have hol := h.out.le
  have hil := h.ins.le
  have hql := h'.out.le
  have hjl := h'.ins.le
  clear h h' hr hl himm himm' ho ho' hci hdi
  unfold cdVal
  go_enter Tryz.func19, Tryz.ntmps19
  obtain ⟨z0, z1, z2, z3⟩ := cd_block4 KC.out
  obtain ⟨y0, y1, y2, y3⟩ := cd_block4 KD.out
  go_wp2_with fail
  refine (CC.out _ BW.out).mono ?_
  rintro e w1 ⟨rfl, b1⟩
  have B1 := Lib.hid (below_both BW.out b1)
  have KC1 := Lib.hid (block_below b1 KC.out)
  have KD1 := Lib.hid (block_below b1 KD.out)
  clear b1 z0 z1 z2 z3 y0 y1 y2 y3
  by_cases he : cmpErr c d = 0
  case neg =>
    have t0 : (cmpErr c d != 0) = true := by simpa using he
    have HE : Hid (tstI c d ls = -1 ∧ tstB c d ls = false) := ⟨by unfold tstI; rw [if_pos he], by unfold tstB; rw [if_pos he]⟩
    clear he
    go_wp2_with fail
    go_ret2
    exact ⟨ret_ibx HE.out.1.symm HE.out.2.symm, B1.out⟩
  have t0 : (cmpErr c d != 0) = false := by simpa using he
  have HTI : Hid (tstI c d ls = match tstK c d ls with | some i => (i : Int) | none => -1) := by show _ = _; unfold tstI; rw [if_neg (not_not_intro he)]
  have HTB : Hid (tstB c d ls = (tstK c d ls).isNone) := by show _ = _; unfold tstB; rw [if_neg (not_not_intro he)]
  clear he
  go_wp2_with fail
  go_loopw [8] (fun i wr => ∃ k : Nat, k ≤ ls.length ∧ i = .int .i64 k ∧ Hid (∀ j (hj : j < ls.length), j < k → showsB c d ls[j] = false) ∧ Hid (Below w1.heap.size w1 wr)) (fun i _ => ls.length - (intOf i).toNat)
  case atStart => exact ⟨0, by omega, rfl, fun j hj h => by omega, Below.refl _ _⟩
  case round =>
    obtain ⟨k, hk9, rfl, hv, HB⟩ := hrel
    have BB := Lib.hid (below_both B1.out HB.out)
    by_cases hlt : k < ls.length
    · obtain ⟨b, o, cs, rfl, -, hbw, hk, hcell⟩ := (HR.out.frame (Same.below BB.out)).elem hlt
      obtain ⟨sa, sc, rfl, hrd⟩ := hk
      have d5 := hcell 0 _ rfl
      have hsz : (Kd.slice (Kd.int .u64)).sz = 1 := rfl
      rw [hsz, Nat.mul_one, Nat.add_zero] at d5
      have HLK := Lib.hid (HL.out _ (List.getElem_mem hlt))
      have CW0 := Lib.hid (fun W (b : Below wr.heap.size wr W) => CS.out W (below_both BB.out b) _ _ sa sc (hrd.frame (Same.below b)) HLK.out)
      have HB5 := Lib.hid (fun (hq : showsB c d ls[k] = true) => show tstK c d ls = some k from tstK_some hlt hv.out hq)
      have HV5 := Lib.hid (fun (hq : showsB c d ls[k] = false) j (hj : j < ls.length) (hjk : j < k + 1) => show showsB c d ls[j] = false from by
        rcases Nat.lt_or_ge j k with h' | h'
        · exact hv.out j hj h'
        · obtain rfl : j = k := by omega
          exact hq)
      clear hcell hrd hsz
      generalize ls[k] = l at *
      obtain ⟨z0, z1, z2, z3⟩ := cd_block4 (block_below HB.out KC1.out)
      obtain ⟨y0, y1, y2, y3⟩ := cd_block4 (block_below HB.out KD1.out)
      obtain ⟨ln, hln⟩ : ∃ n, n = l.length := ⟨_, rfl⟩
      rw [← hln] at CW0 d5
      clear hln
      cases hq : showsB c d l
      · have HV := Lib.hid (HV5.out hq)
        rw [hq] at CW0
        clear hq
        go_wp2_with fail
        go_region_held3 (fun w' => (w'.cell? ⟨w.heap.size, 0, none⟩ = some (.int .i64 c.width) ∧ w'.cell? ⟨w.heap.size, 1, none⟩ = some (.int .i64 c.regs) ∧ w'.cell? ⟨w.heap.size, 2, none⟩ = some (.slice ia c.ins.length ic) ∧ w'.cell? ⟨w.heap.size, 3, none⟩ = some (.slice oa c.out.length oc)) ∧
            (w'.cell? ⟨w.heap.size + 1, 0, none⟩ = some (.int .i64 d.width) ∧ w'.cell? ⟨w.heap.size + 1, 1, none⟩ = some (.int .i64 d.regs) ∧ w'.cell? ⟨w.heap.size + 1, 2, none⟩ = some (.slice ja d.ins.length jc) ∧ w'.cell? ⟨w.heap.size + 1, 3, none⟩ = some (.slice qa d.out.length qc)) ∧ w'.cell? ⟨b, o + k, none⟩ = some (.slice sa ln sc))
          (first | with_reducible exact ⟨cd_block4 KC3.out, cd_block4 KD3.out, d6⟩ | exact ⟨⟨z0, z1, z2, z3⟩, ⟨y0, y1, y2, y3⟩, d5⟩)
          (first
          | (go_at_call 32; refine (CW0.out _ (by exact (Drawn.refl wr).drew.below _)).mono ?_; rintro e w3 ⟨rfl, b3⟩; have B3 := Lib.hid (below_both ((Drawn.refl wr).drew.below wr.heap.size) b3); have KC3 := Lib.hid (block_below (below_both HB.out B3.out) KC1.out); have KD3 := Lib.hid (block_below (below_both HB.out B3.out) KD1.out); have d6 := (B3.out.cell (p := ⟨b, o + k, none⟩) hbw).trans d5; clear b3)
          | fail)
        go_wp2_with fail
        go_roundw
        case rel => exact ⟨k + 1, by omega, by go_num, HV.out, below_both HB.out B3.out⟩
        case measure => simp [intOf]; omega
      · have HKS := Lib.hid (HB5.out hq)
        rw [hq] at CW0
        clear hq
        go_wp2_with fail
        go_region_held3 (fun w' => (w'.cell? ⟨w.heap.size, 0, none⟩ = some (.int .i64 c.width) ∧ w'.cell? ⟨w.heap.size, 1, none⟩ = some (.int .i64 c.regs) ∧ w'.cell? ⟨w.heap.size, 2, none⟩ = some (.slice ia c.ins.length ic) ∧ w'.cell? ⟨w.heap.size, 3, none⟩ = some (.slice oa c.out.length oc)) ∧
            (w'.cell? ⟨w.heap.size + 1, 0, none⟩ = some (.int .i64 d.width) ∧ w'.cell? ⟨w.heap.size + 1, 1, none⟩ = some (.int .i64 d.regs) ∧ w'.cell? ⟨w.heap.size + 1, 2, none⟩ = some (.slice ja d.ins.length jc) ∧ w'.cell? ⟨w.heap.size + 1, 3, none⟩ = some (.slice qa d.out.length qc)) ∧ w'.cell? ⟨b, o + k, none⟩ = some (.slice sa ln sc))
          (first | with_reducible exact ⟨cd_block4 KC3.out, cd_block4 KD3.out, d6⟩ | exact ⟨⟨z0, z1, z2, z3⟩, ⟨y0, y1, y2, y3⟩, d5⟩)
          (first
          | (go_at_call 32; refine (CW0.out _ (by exact (Drawn.refl wr).drew.below _)).mono ?_; rintro e w3 ⟨rfl, b3⟩; have B3 := Lib.hid (below_both ((Drawn.refl wr).drew.below wr.heap.size) b3); have KC3 := Lib.hid (block_below (below_both HB.out B3.out) KC1.out); have KD3 := Lib.hid (block_below (below_both HB.out B3.out) KD1.out); have d6 := (B3.out.cell (p := ⟨b, o + k, none⟩) hbw).trans d5; clear b3)
          | fail)
        go_wp2_with fail
        go_ret2
        exact ⟨ret_ibx (by rw [HTI.out, HKS.out]) (by rw [HTB.out, HKS.out]; rfl), below_both BB.out B3.out⟩
    · have hnl : ¬ ((k : Int) < (ls.length : Int)) := by omega
      have HKN := Lib.hid (tstK_none (c := c) (d := d) (ls := ls) (fun j hj => hv.out j hj (by omega)))
      go_wp2_with fail
      go_ret2
      exact ⟨ret_ibx (by rw [HTI.out, HKN.out]) (by rw [HTB.out, HKN.out]; rfl), BB.out⟩
set_option maxRecDepth 20000 in
set_option maxHeartbeats 4000000 in
theorem refine_Test (S Sl : Nat → Prop) (c d : Cd) (p q : CdAt) (ls : List (List Int)) (a : Option Addr) (ca : Nat) (w : World) (hK : IsaT w) (h : CdRd S w c p) (h' : CdRd S w d q) (ho : c.out.length ≤ 20) (ho' : d.out.length ≤ 20) (hci : c.ins.length ≤ 256) (hdi : d.ins.length ≤ 256) (himm : ∀ x ∈ c.ins, 0 ≤ x.imm ∧ x.imm < 18446744073709551616) (himm' : ∀ x ∈ d.ins, 0 ≤ x.imm ∧ x.imm < 18446744073709551616) (hr : Rd (Kd.slice (Kd.int .u64)) Sl w a ca ls) (hl : ∀ l ∈ ls, ∀ x ∈ l, 0 ≤ x ∧ x < 18446744073709551616) :
    Calls Tryz.prog 18 #[cdVal c p, cdVal d q, .slice a ls.length ca] w fun e w' => e = .returned (.tuple #[.int .i64 (tstI c d ls), .bool (tstB c d ls)]) ∧ Below w.heap.size w w' := by
  have CC := Lib.hid (fun W (b : Below w.heap.size w W) => refine_States S c d p q W (hK.below b) (h.frame (Same.below b)) (h'.frame (Same.below b)))
  have CS := Lib.hid (fun W (b : Below w.heap.size w W) Sl l a ca (hr : Rd (Kd.int .u64) Sl W a ca l) (hl : ∀ x ∈ l, 0 ≤ x ∧ x < 18446744073709551616) => refine_shows S Sl c d p q l a ca W (hK.below b) (h.frame (Same.below b)) (h'.frame (Same.below b)) ho ho' himm himm' hr hl)
  have HN7 := Lib.hid (cmpErr_ne7 hci hdi)
  obtain ⟨ia, ic, oa, oc⟩ := p
  obtain ⟨ja, jc, qa, qc⟩ := q
  have BW := Lib.hid (below_alloc (below_alloc (Below.refl w.heap.size w) (.cells (cellsC c ia ic oa oc) 25)) (.cells (cellsC d ja jc qa qc) 25))
  have KC := Lib.hid (block_alloc (heap_alloc_new w (.cells (cellsC c ia ic oa oc) 25)) (.cells (cellsC d ja jc qa qc) 25))
  have KD := Lib.hid (block_at1 w (.cells (cellsC c ia ic oa oc) 25) (.cells (cellsC d ja jc qa qc) 25))
  have HR := Lib.hid hr
  have HL := Lib.hid hl
  have hll := hr.le
  have hol := h.out.le
  have hil := h.ins.le
  have hql := h'.out.le
  have hjl := h'.ins.le
  clear h h' hr hl himm himm' ho ho' hci hdi
  unfold cdVal
  go_enter Tryz.func18, Tryz.ntmps18
  obtain ⟨z0, z1, z2, z3⟩ := cd_block4 KC.out
  obtain ⟨y0, y1, y2, y3⟩ := cd_block4 KD.out
  go_wp2_with fail
  refine (CC.out _ BW.out).mono ?_
  rintro e w1 ⟨v1, rfl, o1, b1⟩
  obtain ⟨a1, c1, rfl⟩ := o1.form
  have B1 := Lib.hid (below_both BW.out b1)
  have KC1 := Lib.hid (block_below b1 KC.out)
  have KD1 := Lib.hid (block_below b1 KD.out)
  clear o1 b1 z0 z1 z2 z3 y0 y1 y2 y3
  by_cases he : cmpErr c d = 0
  case neg =>
    have hs : stsErr c d = cmpErr c d := by unfold stsErr; exact if_pos he
    have t0 : (stsErr c d != 0) = true := by rw [hs]; simpa using he
    have t1 : (stsErr c d != 7) = true := by rw [hs]; simpa using HN7.out
    clear hs
    have HE : Hid (tstI c d ls = -1 ∧ tstB c d ls = false) := ⟨by unfold tstI; rw [if_pos he], by unfold tstB; rw [if_pos he]⟩
    clear he
    go_wp2_with fail
    go_ret2
    exact ⟨ret_ibx HE.out.1.symm HE.out.2.symm, B1.out⟩
  have HTI : Hid (tstI c d ls = match tstK c d ls with | some i => (i : Int) | none => -1) := by show _ = _; unfold tstI; rw [if_neg (not_not_intro he)]
  have HTB : Hid (tstB c d ls = (tstK c d ls).isNone) := by show _ = _; unfold tstB; rw [if_neg (not_not_intro he)]
  have hs : stsErr c d = 0 ∨ stsErr c d = 7 := by
    unfold stsErr
    rw [if_neg (not_not_intro he)]
    split
    · exact .inr rfl
    · exact .inl rfl
  clear he
  rcases hs with hs | hs
  · have t0 : (stsErr c d != 0) = false := by simpa using hs
    clear hs
    go_wp2_with fail
    go_loopw [28] (fun i wr => ∃ k : Nat, k ≤ ls.length ∧ i = .int .i64 k ∧ Hid (∀ j (hj : j < ls.length), j < k → showsB c d ls[j] = false) ∧ Hid (Below w1.heap.size w1 wr)) (fun i _ => ls.length - (intOf i).toNat)
    case atStart => exact ⟨0, by omega, rfl, fun j hj h => by omega, Below.refl _ _⟩
    case round =>
      obtain ⟨k, hk9, rfl, hv, HB⟩ := hrel
      have BB := Lib.hid (below_both B1.out HB.out)
      by_cases hlt : k < ls.length
      · obtain ⟨b, o, cs, rfl, -, hbw, hk, hcell⟩ := (HR.out.frame (Same.below BB.out)).elem hlt
        obtain ⟨sa, sc, rfl, hrd⟩ := hk
        have d5 := hcell 0 _ rfl
        have hsz : (Kd.slice (Kd.int .u64)).sz = 1 := rfl
        rw [hsz, Nat.mul_one, Nat.add_zero] at d5
        have HLK := Lib.hid (HL.out _ (List.getElem_mem hlt))
        have CW0 := Lib.hid (fun W (b : Below wr.heap.size wr W) => CS.out W (below_both BB.out b) _ _ sa sc (hrd.frame (Same.below b)) HLK.out)
        have HB5 := Lib.hid (fun (hq : showsB c d ls[k] = true) => show tstK c d ls = some k from tstK_some hlt hv.out hq)
        have HV5 := Lib.hid (fun (hq : showsB c d ls[k] = false) j (hj : j < ls.length) (hjk : j < k + 1) => show showsB c d ls[j] = false from by
          rcases Nat.lt_or_ge j k with h' | h'
          · exact hv.out j hj h'
          · obtain rfl : j = k := by omega
            exact hq)
        clear hcell hrd hsz
        generalize ls[k] = l at *
        obtain ⟨z0, z1, z2, z3⟩ := cd_block4 (block_below HB.out KC1.out)
        obtain ⟨y0, y1, y2, y3⟩ := cd_block4 (block_below HB.out KD1.out)
        obtain ⟨ln, hln⟩ : ∃ n, n = l.length := ⟨_, rfl⟩
        rw [← hln] at CW0 d5
        clear hln
        cases hq : showsB c d l
        · have HV := Lib.hid (HV5.out hq)
          rw [hq] at CW0
          clear hq
          go_wp2_with fail
          refine (CW0.out _ (Below.refl _ _)).mono ?_
          rintro e w3 ⟨rfl, b3⟩
          have B3 := Lib.hid b3
          clear b3
          go_wp2_with fail
          go_roundw
          case rel => exact ⟨k + 1, by omega, by go_num, HV.out, below_both HB.out B3.out⟩
          case measure => simp [intOf]; omega
        · have HKS := Lib.hid (HB5.out hq)
          rw [hq] at CW0
          clear hq
          go_wp2_with fail
          refine (CW0.out _ (Below.refl _ _)).mono ?_
          rintro e w3 ⟨rfl, b3⟩
          have B3 := Lib.hid b3
          clear b3
          go_wp2_with fail
          go_ret2
          exact ⟨ret_ibx (by rw [HTI.out, HKS.out]) (by rw [HTB.out, HKS.out]; rfl), below_both BB.out B3.out⟩
      · have hnl : ¬ ((k : Int) < (ls.length : Int)) := by omega
        have HKN := Lib.hid (tstK_none (c := c) (d := d) (ls := ls) (fun j hj => hv.out j hj (by omega)))
        go_wp2_with fail
        go_ret2
        exact ⟨ret_ibx (by rw [HTI.out, HKN.out]) (by rw [HTB.out, HKN.out]; rfl), BB.out⟩
  · have t0 : (stsErr c d != 0) = true := by simp [hs]
    have t1 : (stsErr c d != 7) = false := by simpa using hs
    clear hs
    go_wp2_with fail
    go_loopw [28] (fun i wr => ∃ k : Nat, k ≤ ls.length ∧ i = .int .i64 k ∧ Hid (∀ j (hj : j < ls.length), j < k → showsB c d ls[j] = false) ∧ Hid (Below w1.heap.size w1 wr)) (fun i _ => ls.length - (intOf i).toNat)
    case atStart => exact ⟨0, by omega, rfl, fun j hj h => by omega, Below.refl _ _⟩
    case round =>
      obtain ⟨k, hk9, rfl, hv, HB⟩ := hrel
      have BB := Lib.hid (below_both B1.out HB.out)
      by_cases hlt : k < ls.length
      · obtain ⟨b, o, cs, rfl, -, hbw, hk, hcell⟩ := (HR.out.frame (Same.below BB.out)).elem hlt
        obtain ⟨sa, sc, rfl, hrd⟩ := hk
        have d5 := hcell 0 _ rfl
        have hsz : (Kd.slice (Kd.int .u64)).sz = 1 := rfl
        rw [hsz, Nat.mul_one, Nat.add_zero] at d5
        have HLK := Lib.hid (HL.out _ (List.getElem_mem hlt))
        have CW0 := Lib.hid (fun W (b : Below wr.heap.size wr W) => CS.out W (below_both BB.out b) _ _ sa sc (hrd.frame (Same.below b)) HLK.out)
        have HB5 := Lib.hid (fun (hq : showsB c d ls[k] = true) => show tstK c d ls = some k from tstK_some hlt hv.out hq)
        have HV5 := Lib.hid (fun (hq : showsB c d ls[k] = false) j (hj : j < ls.length) (hjk : j < k + 1) => show showsB c d ls[j] = false from by
          rcases Nat.lt_or_ge j k with h' | h'
          · exact hv.out j hj h'
          · obtain rfl : j = k := by omega
            exact hq)
        clear hcell hrd hsz
        generalize ls[k] = l at *
        obtain ⟨z0, z1, z2, z3⟩ := cd_block4 (block_below HB.out KC1.out)
        obtain ⟨y0, y1, y2, y3⟩ := cd_block4 (block_below HB.out KD1.out)
        obtain ⟨ln, hln⟩ : ∃ n, n = l.length := ⟨_, rfl⟩
        rw [← hln] at CW0 d5
        clear hln
        cases hq : showsB c d l
        · have HV := Lib.hid (HV5.out hq)
          rw [hq] at CW0
          clear hq
          go_wp2_with fail
          refine (CW0.out _ (Below.refl _ _)).mono ?_
          rintro e w3 ⟨rfl, b3⟩
          have B3 := Lib.hid b3
          clear b3
          go_wp2_with fail
          go_roundw
          case rel => exact ⟨k + 1, by omega, by go_num, HV.out, below_both HB.out B3.out⟩
          case measure => simp [intOf]; omega
        · have HKS := Lib.hid (HB5.out hq)
          rw [hq] at CW0
          clear hq
          go_wp2_with fail
          refine (CW0.out _ (Below.refl _ _)).mono ?_
          rintro e w3 ⟨rfl, b3⟩
          have B3 := Lib.hid b3
          clear b3
          go_wp2_with fail
          go_ret2
          exact ⟨ret_ibx (by rw [HTI.out, HKS.out]) (by rw [HTB.out, HKS.out]; rfl), below_both BB.out B3.out⟩
      · have hnl : ¬ ((k : Int) < (ls.length : Int)) := by omega
        have HKN := Lib.hid (tstK_none (c := c) (d := d) (ls := ls) (fun j hj => hv.out j hj (by omega)))
        go_wp2_with fail
        go_ret2
        exact ⟨ret_ibx (by rw [HTI.out, HKN.out]) (by rw [HTB.out, HKN.out]; rfl), BB.out⟩
end Go.Proofs.Sat
