/- Sets of registers: the walks of live.back and live.dead. -/
import Derived.Test.YtkomfeeimdlokaaDoorLvS
import Derived.Test.YtkomfeeimdlokaaDoorIsaI
set_option linter.unusedVariables false
set_option linter.unusedSimpArgs false
namespace Go.Proofs.Sat
open Go Go.RowKit
abbrev cellsB (s : Nat → Bool) : Array Value := #[.bool (s 0), .bool (s 1), .bool (s 2), .bool (s 3), .bool (s 4), .bool (s 5), .bool (s 6), .bool (s 7)]
abbrev cellsI (x : In) : Array Value := #[.int .i64 x.op, .int .i64 x.dst, .int .i64 x.a, .int .i64 x.b, .int .i64 x.c, .int .u64 x.imm]
/-- A set with r put in or taken out. -/
def updS (s : Nat → Bool) (r : Int) (b : Bool) : Nat → Bool := fun k => if (k : Int) = r then b else s k
/-- What is live before an instruction. -/
def backS (s : Nat → Bool) (x : In) : Nat → Bool := fun k => decide ((k : Int) ∈ usesI x) || (s k && !(defsI x && decide (x.dst = (k : Int))))
theorem cellsB_get (s : Nat → Bool) {m : Nat} (h : m < 8) : (cellsB s)[m]? = some (.bool (s m)) := by
  rcases (show m = 0 ∨ m = 1 ∨ m = 2 ∨ m = 3 ∨ m = 4 ∨ m = 5 ∨ m = 6 ∨ m = 7 by omega) with rfl | rfl | rfl | rfl | rfl | rfl | rfl | rfl <;> rfl
theorem cellsB_set (s : Nat → Bool) {m : Nat} (h : m < 8) (b : Bool) : (cellsB s).setIfInBounds m (.bool b) = cellsB (updS s m b) := by
  rcases (show m = 0 ∨ m = 1 ∨ m = 2 ∨ m = 3 ∨ m = 4 ∨ m = 5 ∨ m = 6 ∨ m = 7 by omega) with rfl | rfl | rfl | rfl | rfl | rfl | rfl | rfl <;> simp [cellsB, updS, Array.setIfInBounds]
theorem set_at {w : World} {g : Nat} {t : TypeId} {s : Nat → Bool} (hg : w.heap[g]? = some (.cells (cellsB s) t (0, 0))) {m : Nat} (h : m < 8) :
    w.cell? ⟨g, m, none⟩ = some (.bool (s m)) ∧ w.frozen? ⟨g, m, none⟩ = false ∧ ∀ b, (w.setCell ⟨g, m, none⟩ (.bool b)).heap[g]? = some (.cells (cellsB (updS s m b)) t (0, 0)) := by
  refine ⟨?_, frozen_of_block hg, fun b => ?_⟩
  · rw [cell_of_row _ _ m _ _ _ hg, cellsB_get s h]
  · rw [← cellsB_set s h b]
    simp [World.setCell, Array.getElem?_modify, hg]
theorem set_cells {w : World} {g : Nat} {t : TypeId} {s : Nat → Bool} (h : w.heap[g]? = some (.cells (cellsB s) t (0, 0))) :
    w.cell? ⟨g, 0, none⟩ = some (.bool (s 0)) ∧ w.cell? ⟨g, 1, none⟩ = some (.bool (s 1)) ∧ w.cell? ⟨g, 2, none⟩ = some (.bool (s 2)) ∧ w.cell? ⟨g, 3, none⟩ = some (.bool (s 3)) ∧ w.cell? ⟨g, 4, none⟩ = some (.bool (s 4)) ∧ w.cell? ⟨g, 5, none⟩ = some (.bool (s 5)) ∧ w.cell? ⟨g, 6, none⟩ = some (.bool (s 6)) ∧ w.cell? ⟨g, 7, none⟩ = some (.bool (s 7)) :=
  ⟨(set_at h (by omega)).1, (set_at h (by omega)).1, (set_at h (by omega)).1, (set_at h (by omega)).1, (set_at h (by omega)).1, (set_at h (by omega)).1, (set_at h (by omega)).1, (set_at h (by omega)).1⟩
theorem set_eight {w : World} {g : Nat} {t : TypeId} {z : Nat → Bool} (hg : w.heap[g]? = some (.cells (cellsB z) t (0, 0))) (s : Nat → Bool) :
    ((((((((w.setCell ⟨g, 0, none⟩ (.bool (s 0))).setCell ⟨g, 1, none⟩ (.bool (s 1))).setCell ⟨g, 2, none⟩ (.bool (s 2))).setCell ⟨g, 3, none⟩ (.bool (s 3))).setCell ⟨g, 4, none⟩ (.bool (s 4))).setCell ⟨g, 5, none⟩ (.bool (s 5))).setCell ⟨g, 6, none⟩ (.bool (s 6))).setCell ⟨g, 7, none⟩ (.bool (s 7))).heap[g]? = some (.cells (cellsB s) t (0, 0)) := by
  have h0 := (set_at hg (m := 0) (by omega)).2.2 (s 0)
  have h1 := (set_at h0 (m := 1) (by omega)).2.2 (s 1)
  have h2 := (set_at h1 (m := 2) (by omega)).2.2 (s 2)
  have h3 := (set_at h2 (m := 3) (by omega)).2.2 (s 3)
  have h4 := (set_at h3 (m := 4) (by omega)).2.2 (s 4)
  have h5 := (set_at h4 (m := 5) (by omega)).2.2 (s 5)
  have h6 := (set_at h5 (m := 6) (by omega)).2.2 (s 6)
  have h7 := (set_at h6 (m := 7) (by omega)).2.2 (s 7)
  rw [h7]
  congr 2
theorem below_eight {B : Nat} {w0 w : World} {g : Nat} (h : Below B w0 w) (hg : B ≤ g) (s : Nat → Bool) :
    Below B w0 ((((((((w.setCell ⟨g, 0, none⟩ (.bool (s 0))).setCell ⟨g, 1, none⟩ (.bool (s 1))).setCell ⟨g, 2, none⟩ (.bool (s 2))).setCell ⟨g, 3, none⟩ (.bool (s 3))).setCell ⟨g, 4, none⟩ (.bool (s 4))).setCell ⟨g, 5, none⟩ (.bool (s 5))).setCell ⟨g, 6, none⟩ (.bool (s 6))).setCell ⟨g, 7, none⟩ (.bool (s 7))) :=
  (((((((h.setCell hg _).setCell hg _).setCell hg _).setCell hg _).setCell hg _).setCell hg _).setCell hg _).setCell hg _
theorem setVal_congr {s t : Nat → Bool} (h : ∀ k, k < 8 → s k = t k) : setVal s = setVal t := by
  unfold setVal
  rw [h 0 (by omega), h 1 (by omega), h 2 (by omega), h 3 (by omega), h 4 (by omega), h 5 (by omega), h 6 (by omega), h 7 (by omega)]
/-- A set without the defined register. -/
def unS (s : Nat → Bool) (x : In) : Nat → Bool := fun k => s k && !(defsI x && decide (x.dst = (k : Int)))
/-- A set with registers. -/
def withS (s : Nat → Bool) (l : List Int) : Nat → Bool := fun k => decide ((k : Int) ∈ l) || s k
theorem cellsB_congr {s t : Nat → Bool} (h : ∀ k, k < 8 → s k = t k) : cellsB s = cellsB t := by
  unfold cellsB
  rw [h 0 (by omega), h 1 (by omega), h 2 (by omega), h 3 (by omega), h 4 (by omega), h 5 (by omega), h 6 (by omega), h 7 (by omega)]
theorem updS_un (s : Nat → Bool) (x : In) (h : defsI x = true) : updS s x.dst false = unS s x := by
  funext k
  unfold updS unS
  rw [h]
  by_cases e : (k : Int) = x.dst
  · rw [if_pos e]; simp [e]
  · rw [if_neg e]; simp [Ne.symm e]
theorem updS_with (s : Nat → Bool) (l : List Int) (r : Int) : updS (withS s l) r true = withS s (l ++ [r]) := by
  funext k
  unfold updS withS
  by_cases e : (k : Int) = r
  · rw [if_pos e]; simp [e]
  · rw [if_neg e]; simp [e]
set_option maxRecDepth 20000 in
set_option maxHeartbeats 2000000 in
theorem live_back (s : Nat → Bool) (x : In) (w : World) (hK : IsaT w) (hd : defsI x = true → 0 ≤ x.dst ∧ x.dst < 8) (hu : ∀ r ∈ usesI x, 0 ≤ r ∧ r < 8) :
    Calls Tryd.prog 58 #[setVal s, inVal x] w fun e w' => e = .returned (setVal (backS s x)) ∧ Below w.heap.size w w' := by
  have HD := Lib.hid hd
  have HU := Lib.hid hu
  clear hd hu
  have BW := Lib.hid (below_alloc (below_alloc (below_alloc (below_alloc (Below.refl w.heap.size w) (.cells (cellsB s) 90)) (.cells (cellsI x) 35)) (.cells (cellsB fun _ => false) 90)) (.cells (cellsB s) 90))
  have KX : Hid (((((w.alloc (.cells (cellsB s) 90)).alloc (.cells (cellsI x) 35)).alloc (.cells (cellsB fun _ => false) 90)).alloc (.cells (cellsB s) 90)).heap[w.heap.size + 1]? = some (.cells (cellsI x) 35 (0, 0))) := block_alloc (block_alloc (block_at1 w _ _) _) _
  have KZ : Hid (((((w.alloc (.cells (cellsB s) 90)).alloc (.cells (cellsI x) 35)).alloc (.cells (cellsB fun _ => false) 90)).alloc (.cells (cellsB s) 90)).heap[w.heap.size + 1 + 1]? = some (.cells (cellsB fun _ => false) 90 (0, 0))) := block_alloc (block_at2 w _ _ _) _
  have KS : Hid (((((w.alloc (.cells (cellsB s) 90)).alloc (.cells (cellsI x) 35)).alloc (.cells (cellsB fun _ => false) 90)).alloc (.cells (cellsB s) 90)).heap[w.heap.size + 1 + 1 + 1]? = some (.cells (cellsB s) 90 (0, 0))) := by
    have := heap_alloc_new (((w.alloc (.cells (cellsB s) 90)).alloc (.cells (cellsI x) 35)).alloc (.cells (cellsB fun _ => false) 90)) (.cells (cellsB s) 90)
    show _ = _
    simpa using this
  unfold setVal inVal
  go_enter Tryd.func58, Tryd.ntmps58
  go_wp2_with fail
  refine (isa_Def x _).mono ?_
  rintro e w2 ⟨rfl, b2⟩
  have B2 := Lib.hid (below_both BW.out b2)
  have KX2 := Lib.hid (block_below b2 KX.out)
  have KZ2 := Lib.hid (block_below b2 KZ.out)
  have KS2 := Lib.hid (block_below b2 KS.out)
  clear b2
  generalize hrd : (if defsI x = true then x.dst else 0) = rd
  have HRD := Lib.hid hrd
  clear hrd
  go_upto_if 16 with fail
  go_cut [6, 7] (fun s6 s7 wx => Hid (wx.heap[w.heap.size + 1]? = some (.cells (cellsI x) 35 (0, 0))) ∧ Hid (wx.heap[w.heap.size + 1 + 1]? = some (.cells (cellsB fun _ => false) 90 (0, 0))) ∧ Hid (wx.heap[w.heap.size + 1 + 1 + 1]? = some (.cells (cellsB (unS s x)) 90 (0, 0))) ∧ Hid (Below w.heap.size w wx))
  case first =>
    cases hdd : defsI x
    · go_wp2_with fail
      go_meet
      case rel => exact ⟨KX2.out, KZ2.out, by show _ = _; rw [KS2.out]; congr 3; funext k; simp [unS, hdd], B2.out⟩
    · have hrd : rd = x.dst := by have := HRD.out; rw [if_pos hdd] at this; exact this.symm
      have hb := HD.out hdd
      rw [← hrd] at hb
      have HRD2 := Lib.hid hrd
      clear hrd HRD
      obtain ⟨hb1, hb2⟩ := hb
      obtain ⟨m, rfl⟩ := Int.eq_ofNat_of_zero_le hb1
      have hm8 : m < 8 := by omega
      obtain ⟨e1, e2, e3⟩ := set_at KS2.out hm8
      have E3 := Lib.hid (e3 false)
      clear e3
      go_wp2_with fail
      go_meet
      case rel =>
        refine ⟨?_, ?_, ?_, ?_⟩
        · exact block_far KX2.out _ (by show w.heap.size + 1 ≠ w.heap.size + 1 + 1 + 1; omega)
        · exact block_far KZ2.out _ (by show w.heap.size + 1 + 1 ≠ w.heap.size + 1 + 1 + 1; omega)
        · show _ = _
          rw [E3.out, HRD2.out, updS_un s x hdd]
        · exact B2.out.setCell (by show w.heap.size ≤ w.heap.size + 1 + 1 + 1; omega) _
  case rest =>
    obtain ⟨KX3, KZ3, KS3, B3⟩ := hcut
    obtain ⟨f0, f1, f2, f3, f4, f5⟩ := in_block KX3.out
    go_wp2_with fail
    refine (isa_Uses x wc (hK.below B3.out)).mono ?_
    rintro e w4 ⟨ua, uc, rfl, ru, b4⟩
    have B4 := Lib.hid (below_both B3.out b4)
    have KZ4 := Lib.hid (block_below b4 KZ3.out)
    have KS4 := Lib.hid (block_below b4 KS3.out)
    have RU := Lib.hid ru
    have hul := usesI_length x
    have HLT := Lib.hid (Array.getElem?_eq_some_iff.1 KS3.out).1
    clear b4 ru f0 f1 f2 f3 f4 f5
    go_wp2
    go_loopw [22] (fun i wr => ∃ k : Nat, k ≤ (usesI x).length ∧ i = .int .i64 k ∧ Hid (wr.heap[w.heap.size + 1 + 1 + 1]? = some (.cells (cellsB (withS (unS s x) ((usesI x).take k))) 90 (0, 0))) ∧ Hid (Same (fun b => b ≠ w.heap.size + 1 + 1 + 1) w4 wr) ∧ Hid (Below w.heap.size w wr)) (fun i _ => (usesI x).length - (intOf i).toNat)
    case atStart => exact ⟨0, by omega, rfl, by show _ = _; rw [KS4.out]; congr 3, Same.refl _ _, B4.out⟩
    case round =>
      obtain ⟨k, hk9, rfl, KS5, HS, HB⟩ := hrel
      by_cases hlt : k < (usesI x).length
      · have hR := RU.out.frame (w' := wr)
        have hru := RU.out
        obtain ⟨b, o, rfl, hbS, hbl, hc⟩ := RU.out.vals (by omega) 0
        have hc5 : wr.cell? ⟨b, o + k, none⟩ = some (.int .i64 (usesI x)[k]) := by
          have := hc k hlt
          rw [getD_at _ hlt] at this
          rw [← this]
          exact World.cell?_of_block (HS.out.2 b (by have := HLT.out; omega) hbl)
        have hr := HU.out _ (List.getElem_mem hlt)
        have HT := Lib.hid (List.take_succ_eq_append_getElem hlt)
        clear hR hru hc
        generalize (usesI x)[k] = r at *
        obtain ⟨hr1, hr2⟩ := hr
        obtain ⟨m, rfl⟩ := Int.eq_ofNat_of_zero_le hr1
        have hm8 : m < 8 := by omega
        obtain ⟨e1, e2, e3⟩ := set_at KS5.out hm8
        have E3 := Lib.hid (e3 true)
        clear e3
        go_wp2_with fail
        go_roundw
        case rel =>
          refine ⟨k + 1, by omega, by go_num, ?_, ?_, ?_⟩
          · show _ = _
            rw [E3.out, updS_with, HT.out]
          · exact HS.out.trans (Same.setCell _ _ (fun b hb => hb))
          · exact HB.out.setCell (by show w.heap.size ≤ w.heap.size + 1 + 1 + 1; omega) _
        case measure => simp [intOf]; omega
      · obtain rfl : k = (usesI x).length := by omega
        have KZ5 : Hid (wr.heap[w.heap.size + 1 + 1]? = some (.cells (cellsB fun _ => false) 90 (0, 0))) := (HS.out.2 (w.heap.size + 1 + 1) (by show w.heap.size + 1 + 1 ≠ w.heap.size + 1 + 1 + 1; omega) (Array.getElem?_eq_some_iff.1 KZ4.out).1).trans KZ4.out
        rw [List.take_length] at KS5
        have HE : Hid (withS (unS s x) (usesI x) = backS s x) := rfl
        rw [HE.out] at KS5
        obtain ⟨f0, f1, f2, f3, f4, f5, f6, f7⟩ := set_cells KS5.out
        obtain ⟨z0, z1, z2, z3, z4, z5, z6, z7⟩ := set_cells KZ5.out
        have zf : ∀ i, wr.frozen? ⟨w.heap.size + 1 + 1, i, none⟩ = false := fun i => frozen_of_block KZ5.out
        go_wp2_with fail
        refine bodyPost_ret_block (cs := cellsB (backS s x)) (w.heap.size + 1 + 1) (0, 0) (.array 8 4) rfl rfl (set_eight KZ5.out (backS s x)) Tryd.underlying90 rfl (by kernel_rfl) rfl ⟨rfl, ?_⟩
        exact below_eight HB.out (by show w.heap.size ≤ w.heap.size + 1 + 1; omega) _
/-- Is an instruction dead? -/
def deadB (s : Nat → Bool) (x : In) : Bool := !(defsI x) || !(s x.dst.toNat)
end Go.Proofs.Sat
