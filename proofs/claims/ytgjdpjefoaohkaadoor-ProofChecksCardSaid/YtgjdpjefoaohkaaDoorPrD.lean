/- The walks of Check: both sides. -/
import Derived.Test.YtgjdpjefoaohkaaDoorPrC
set_option linter.unusedVariables false
set_option linter.unusedSimpArgs false
namespace Go.Proofs.Sat
open Go Go.RowKit
def firstBad : List St → Nat → Option Nat
  | [], _ => none
  | x :: r, n => if wellB x n = true then firstBad r (n + 1) else some n
theorem firstBad_none : ∀ (l : List St) (n : Nat), (∀ j (h : j < l.length), wellB l[j] ((n + j : Nat) : Int) = true) → firstBad l n = none
  | [], _, _ => rfl
  | x :: r, n, h => by
    have h0 := h 0 (by simp)
    unfold firstBad
    rw [if_pos (by simpa using h0)]
    exact firstBad_none r (n + 1) fun j hj => by
      have := h (j + 1) (by simp; omega)
      simpa [Nat.add_assoc, Nat.add_comm 1 j] using this
theorem firstBad_some : ∀ (l : List St) (n k : Nat) (hk : k < l.length), (∀ j (h : j < l.length), j < k → wellB l[j] ((n + j : Nat) : Int) = true) → wellB l[k] ((n + k : Nat) : Int) = false → firstBad l n = some (n + k)
  | [], _, _, hk, _, _ => by simp at hk
  | x :: r, n, 0, _, _, hb => by
    unfold firstBad
    rw [if_neg (by simpa using hb)]
    rfl
  | x :: r, n, k + 1, hk, h, hb => by
    have h0 := h 0 (by simp) (by omega)
    unfold firstBad
    rw [if_pos (by simpa using h0)]
    have := firstBad_some r (n + 1) k (by simpa using hk) (fun j hj hjk => by
      have := h (j + 1) (by simp; omega) (by omega)
      simpa [Nat.add_assoc, Nat.add_comm 1 j] using this) (by simpa [Nat.add_assoc, Nat.add_comm 1 k] using hb)
    rw [this, Nat.add_assoc, Nat.add_comm 1 k]
/-- What Check answers. -/
def chk (l : List St) : Int × Int := if 65536 < l.length then (0, 7) else if l.length = 0 then (0, 8) else match firstBad l 0 with | some k => (k, 14) | none => (0, 0)
set_option maxHeartbeats 1000000 in
theorem ref34_Check (S : Nat → Prop) (a : Option Addr) (c : Nat) (l : List St) (w : World) (h : Rd kSt S w a c l) :
    Calls Tryd.prog 23 #[.slice a l.length c] w fun e w' => e = .returned (.tuple #[.int .i64 (chk l).1, .int .i64 (chk l).2]) ∧ Below w.heap.size w w' := by
  have hl := h.le
  go_enter Tryd.func23, Tryd.ntmps23
  by_cases h1 : 65536 < l.length
  · have HE := Lib.hid (show chk l = (0, 7) from if_pos h1)
    rw [HE.out]
    go_wp2
    go_ret2
    exact ⟨rfl, Below.refl _ _⟩
  by_cases h0 : l.length = 0
  · have HE := Lib.hid (show chk l = (0, 8) by unfold chk; rw [if_neg h1, if_pos h0])
    rw [HE.out]
    go_wp2
    go_ret2
    exact ⟨rfl, Below.refl _ _⟩
  have HE : Hid (chk l = match firstBad l 0 with | some k => ((k : Int), (14 : Int)) | none => (0, 0)) := by show _ = _; unfold chk; rw [if_neg h1, if_neg h0]
  have t1 : decide ((65536 : Int) < (l.length : Int)) = false := by simp; omega
  have t0 : ((l.length : Int) == 0) = false := by rw [beq_eq_false_iff_ne]; omega
  have h64 : l.length ≤ 65536 := by omega
  clear h0 h1
  go_wp2
  go_loopw [4] (fun i wr => ∃ k : Nat, k ≤ l.length ∧ i = .int .i64 k ∧ Hid (∀ j (h : j < l.length), j < k → wellB l[j] (j : Nat) = true) ∧ Hid (Below w.heap.size w wr)) (fun i _ => l.length - (intOf i).toNat)
  case atStart => exact ⟨0, by omega, rfl, fun j h hj => by omega, Below.refl _ _⟩
  case round =>
    obtain ⟨k, hk, rfl, hv, HB⟩ := hrel
    by_cases hlt : k < l.length
    · obtain ⟨b, o, p, rfl, _, hr, IN⟩ := st_elem (h.frame (Same.below HB.out)) hlt
      have CT := Lib.hid (ref34_well _ l[k] p (k : Nat) wr hr (by omega) (by omega))
      have HKB := Lib.hid (fun (hq : wellB l[k] (k : Nat) = false) => firstBad_some l 0 k hlt (by simpa using hv.out) (by simpa using hq))
      have HV := Lib.hid (fun (hq : wellB l[k] (k : Nat) = true) j (h : j < l.length) (hj : j < k + 1) => show wellB l[j] (j : Nat) = true by
        rcases Nat.lt_or_ge j k with h' | h'
        · exact hv.out j h h'
        · obtain rfl : j = k := by omega
          exact hq)
      clear hr
      generalize l[k] = x at *
      obtain ⟨i0, i1, i2, i3, i4, i5, i6, i7, i8, i9, i10, i11, i12, i13⟩ := IN
      cases hq : wellB x (k : Nat)
      · have hf := Lib.hid (HKB.out hq)
        rw [hq] at CT
        have HE' : Hid (chk l = ((k : Int), 14)) := by show _ = _; rw [HE.out, hf.out]; simp
        clear hq
        go_wp2_with (first
          | (go_at_call 39; refine CT.out.mono ?_; rintro e w1 ⟨rfl, hb1⟩)
          | fail)
        go_ret2
        exact ⟨by rw [HE'.out]; rfl, below_both HB.out hb1⟩
      · have HV' := Lib.hid (HV.out hq)
        rw [hq] at CT
        clear hq
        go_wp2_with (first
          | (go_at_call 39; refine CT.out.mono ?_; rintro e w1 ⟨rfl, hb1⟩)
          | fail)
        go_roundw
        case rel => exact ⟨k + 1, by omega, by go_num, HV'.out, below_both HB.out hb1⟩
        case measure => simp [intOf]; omega
    · have hf := firstBad_none l 0 (fun j hj => by have := hv.out j hj (by omega); simpa using this)
      have HE' : Hid (chk l = (0, 0)) := by show _ = _; rw [HE.out, hf]
      clear hf
      go_wp2
      go_ret2
      exact ⟨by rw [HE'.out]; rfl, HB.out⟩
set_option maxHeartbeats 1000000 in
theorem proof_Check (S : Nat → Prop) (a : Option Addr) (c : Nat) (l : List St) (w : World) (h : Rd kSt S w a c l) (hK : Kinds w) :
    Calls Tryd.prog 13 #[.slice a l.length c] w fun e w' => e = .returned (.tuple #[.int .i64 (chk l).1, .int .i64 (chk l).2]) ∧ Below w.heap.size w w' := by
  have hl := h.le
  go_enter Tryd.func13, Tryd.ntmps13
  by_cases h1 : 65536 < l.length
  · have HE := Lib.hid (show chk l = (0, 7) from if_pos h1)
    rw [HE.out]
    go_wp2
    go_ret2
    exact ⟨rfl, Below.refl _ _⟩
  by_cases h0 : l.length = 0
  · have HE := Lib.hid (show chk l = (0, 8) by unfold chk; rw [if_neg h1, if_pos h0])
    rw [HE.out]
    go_wp2
    go_ret2
    exact ⟨rfl, Below.refl _ _⟩
  have HE : Hid (chk l = match firstBad l 0 with | some k => ((k : Int), (14 : Int)) | none => (0, 0)) := by show _ = _; unfold chk; rw [if_neg h1, if_neg h0]
  have t1 : decide ((65536 : Int) < (l.length : Int)) = false := by simp; omega
  have t0 : ((l.length : Int) == 0) = false := by rw [beq_eq_false_iff_ne]; omega
  have h64 : l.length ≤ 65536 := by omega
  clear h0 h1
  go_wp2
  go_loopw [16] (fun i wr => ∃ k : Nat, k ≤ l.length ∧ i = .int .i64 k ∧ Hid (∀ j (h : j < l.length), j < k → wellB l[j] (j : Nat) = true) ∧ Hid (Below w.heap.size w wr)) (fun i _ => l.length - (intOf i).toNat)
  case atStart => exact ⟨0, by omega, rfl, fun j h hj => by omega, Below.refl _ _⟩
  case round =>
    obtain ⟨k, hk, rfl, hv, HB⟩ := hrel
    by_cases hlt : k < l.length
    · obtain ⟨b, o, p, rfl, _, hr, IN⟩ := st_elem (h.frame (Same.below HB.out)) hlt
      have CT := Lib.hid (fun ob => proof_right _ l[k] p (k : Nat) (wr.alloc ob) (hr.frame (Same.alloc _ _ _)) ((hK.below HB.out).below (below_alloc (Below.refl _ _) _)))
      have HKB := Lib.hid (fun (hq : wellB l[k] (k : Nat) = false) => firstBad_some l 0 k hlt (by simpa using hv.out) (by simpa using hq))
      have HV := Lib.hid (fun (hq : wellB l[k] (k : Nat) = true) j (h : j < l.length) (hj : j < k + 1) => show wellB l[j] (j : Nat) = true by
        rcases Nat.lt_or_ge j k with h' | h'
        · exact hv.out j h h'
        · obtain rfl : j = k := by omega
          exact hq)
      clear hr
      generalize l[k] = x at *
      obtain ⟨i0, i1, i2, i3, i4, i5, i6, i7, i8, i9, i10, i11, i12, i13⟩ := IN
      cases hq : wellB x (k : Nat)
      · have hf := Lib.hid (HKB.out hq)
        rw [hq] at CT
        have HE' : Hid (chk l = ((k : Int), 14)) := by show _ = _; rw [HE.out, hf.out]; simp
        clear hq
        go_wp2_with (first
          | (go_at_call 32; refine (CT.out _).mono ?_; rintro e w1 ⟨rfl, hb1⟩)
          | fail)
        go_ret2
        exact ⟨by rw [HE'.out]; rfl, below_both (below_alloc HB.out _) hb1⟩
      · have HV' := Lib.hid (HV.out hq)
        rw [hq] at CT
        clear hq
        go_wp2_with (first
          | (go_at_call 32; refine (CT.out _).mono ?_; rintro e w1 ⟨rfl, hb1⟩)
          | fail)
        go_roundw
        case rel => exact ⟨k + 1, by omega, by go_num, HV'.out, below_both (below_alloc HB.out _) hb1⟩
        case measure => simp [intOf]; omega
    · have hf := firstBad_none l 0 (fun j hj => by have := hv.out j hj (by omega); simpa using this)
      have HE' : Hid (chk l = (0, 0)) := by show _ = _; rw [HE.out, hf]
      clear hf
      go_wp2
      go_ret2
      exact ⟨by rw [HE'.out]; rfl, HB.out⟩
end Go.Proofs.Sat
