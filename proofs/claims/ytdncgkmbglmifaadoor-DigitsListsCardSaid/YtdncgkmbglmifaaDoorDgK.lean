/- List of the reference and of package digits. -/
import Derived.Test.YtdncgkmbglmifaaDoorDgJ
set_option linter.unusedVariables false
set_option linter.unusedSimpArgs false
namespace Go.Proofs.Sat
open Go Go.RowKit
theorem infoStr : ElemInfo Tryd.prog 51 9 (.string { data := #[] }) 1 16 := ⟨Tryd.underlying51, by kernel_rfl, rfl, by decide⟩
/-- The numerals, separated by spaces. -/
def joinW (l : List Int) : List UInt8 := Lib.join (l.map Lib.itoa) [32]
theorem joinW_nil : joinW [] = [] := rfl
theorem joinW_one (x : Int) : joinW [x] = Lib.itoa x := Lib.join_one _ _
theorem joinW_snoc {l : List Int} (h : l ≠ []) (x : Int) : joinW (l ++ [x]) = (joinW l ++ [32]) ++ Lib.itoa x := by
  cases l with
  | nil => exact absurd rfl h
  | cons y r =>
    unfold joinW
    simp [Lib.join_cons, Lib.joinTail]
abbrev IntsOK (l : List Int) : Prop := ∀ x ∈ l, -9223372036854775808 ≤ x ∧ x ≤ 9223372036854775807
theorem itoa_len {x : Int} (h : -9223372036854775808 ≤ x ∧ x ≤ 9223372036854775807) : (Lib.itoa x).length ≤ 66 := by
  unfold Lib.itoa
  split
  · rw [List.length_cons, dec_eq]
    have := wr_len64 (b := 10) (x := x.natAbs) (by omega) (by omega)
    omega
  · rw [dec_eq]
    have := wr_len64 (b := 10) (x := x.toNat) (by omega) (by omega)
    omega
theorem joinW_len {l : List Int} (h : IntsOK l) : (joinW l).length ≤ 67 * l.length := by
  have key : ∀ (r : List Int), IntsOK r → (Lib.joinTail [32] (r.map Lib.itoa)).length ≤ 67 * r.length := by
    intro r
    induction r with
    | nil => intro _; simp [Lib.joinTail]
    | cons x r ih =>
      intro hr
      have h1 := ih (fun y hy => hr y (by simp [hy]))
      have h2 := itoa_len (hr x (by simp))
      simp [Lib.joinTail] at h1 ⊢
      omega
  cases l with
  | nil => simp [joinW_nil]
  | cons x r =>
    have h1 := key r (fun y hy => h y (by simp [hy]))
    have h2 := itoa_len (h x (by simp))
    unfold joinW
    rw [List.map_cons, Lib.join_cons, List.length_append, List.length_cons]
    omega
set_option maxRecDepth 20000 in
set_option maxHeartbeats 1000000 in
theorem ref02_List (S : Nat → Prop) (a : Option Addr) (c : Nat) (l : List Int) (w : World) (hR : Rd (Kd.int .i64) S w a c l) (hI : IntsOK l) (hl : l.length ≤ 1000000) :
    Calls Tryd.prog 17 #[.slice a l.length c] w fun e w' => e = .returned (.string (strOf (joinW l))) ∧ Drawn w w' := by
  have HI := Lib.hid hI
  have HR := Lib.hid hR
  obtain ⟨n, hn⟩ : ∃ n, n = l.length := ⟨_, rfl⟩
  have HN := Lib.hid hn
  rw [← hn] at hl
  rw [← hn]
  clear hn hI hR
  go_enter Tryd.func17, Tryd.ntmps17
  go_wp2_with fail
  go_loopw [3, 4] (fun ss is wr => ∃ (k : Nat) (cur : List UInt8), k ≤ n ∧ ss = .string (strOf cur) ∧ is = .int .i64 k ∧ Hid (cur = joinW (l.take k)) ∧ Hid (Drawn w wr)) (fun _ is _ => n - (intOf is).toNat)
  case atStart => exact ⟨0, [], by omega, rfl, rfl, by show _ = _; rw [List.take_zero]; rfl, by first | exact Drawn.refl _ | exact Drawn.of _ _⟩
  case round =>
    obtain ⟨k, cur, hk, rfl, rfl, HC, HD⟩ := hrel
    by_cases hlt : k < n
    · have HLT : Hid (k < l.length) := by show _ < _; rw [← HN.out]; exact hlt
      have hkl : (k : Int) < (n : Int) := by omega
      obtain ⟨b, o, rfl, -, -, hc⟩ := (HR.out.frame (Same.drawn _ HD.out)).vals (by have := HLT.out; omega) 0
      have d5 := hc k HLT.out
      rw [getD_at _ HLT.out] at d5
      have hx := HI.out _ (List.getElem_mem HLT.out)
      have HT : Hid (l.take (k + 1) = l.take k ++ [l[k]'HLT.out]) := List.take_succ_eq_append_getElem HLT.out
      have hcl : cur.length ≤ 67000000 := by
        have h1 := joinW_len (l := l.take k) (fun y hy => HI.out y (List.mem_of_mem_take hy))
        rw [← HC.out, List.length_take] at h1
        omega
      have hil := itoa_len hx
      have CI := Lib.hid (fun W => ref02_Int (l[k]'HLT.out) W hx.1 hx.2)
      have HNE : Hid (0 < k → l.take k ≠ []) := fun h e => by
        have := congrArg List.length e
        rw [List.length_take, List.length_nil] at this
        have := HLT.out
        omega
      generalize l[k]'HLT.out = x at *
      generalize hiteq : Lib.itoa x = it at *
      have HIT := Lib.hid hiteq
      clear hc hx hiteq
      by_cases h0 : k = 0
      · have t0 : decide ((0 : Int) < (k : Int)) = false := decide_eq_false (by omega)
        have t1 : decide (0 < k) = false := decide_eq_false (by omega)
        have HE : Hid (cur ++ it = joinW (l.take (k + 1))) := by
          show _ = _
          rw [HT.out, HC.out, h0, List.take_zero, joinW_nil, List.nil_append, List.nil_append, joinW_one, HIT.out]
        have hsm : ∀ W : World, (Op.stringOp .add (strOf cur) (strOf it)).run Tryd.prog W = .ok (.string (strOf (cur ++ it))) W := fun W => by
          rw [run_string_add_sum W _ _ (by rw [strOf_size, strOf_size]; omega), strOf_append]
        generalize cur ++ it = cur2 at *
        clear h0 hcl hil
        go_wp2_with (first
          | (go_at_call 24; refine (CI.out _).mono ?_; rintro e w2 ⟨rfl, d2⟩; have D2 := Lib.hid (HD.out.trans d2); clear d2)
          | fail)
        go_roundw
        case rel => exact ⟨k + 1, cur2, by omega, rfl, by go_num, HE.out, D2.out⟩
        case measure => simp [intOf]; omega
      · have t0 : decide ((0 : Int) < (k : Int)) = true := decide_eq_true (by omega)
        have t1 : decide (0 < k) = true := decide_eq_true (by omega)
        have HE : Hid ((cur ++ [32]) ++ it = joinW (l.take (k + 1))) := by
          show _ = _
          rw [HT.out, HC.out, joinW_snoc (HNE.out (by omega)), HIT.out]
        have hs1 : ∀ W : World, (Op.stringOp .add (strOf cur) { data := #[32] }).run Tryd.prog W = .ok (.string (strOf (cur ++ [32]))) W := fun W => by
          rw [run_string_add_sum W _ _ (by rw [strOf_size]; show _ + 1 ≤ _; omega)]
          exact congrArg (fun s => Result.ok (Value.string s) W) (strOf_append cur [32])
        have hc2 : (cur ++ [32]).length ≤ 67000001 := by rw [List.length_append, List.length_singleton]; omega
        generalize cur ++ [32] = cur1 at *
        have hsm : ∀ W : World, (Op.stringOp .add (strOf cur1) (strOf it)).run Tryd.prog W = .ok (.string (strOf (cur1 ++ it))) W := fun W => by
          rw [run_string_add_sum W _ _ (by rw [strOf_size, strOf_size]; omega), strOf_append]
        generalize cur1 ++ it = cur2 at *
        clear h0 hcl hil hc2
        go_wp2_with (first
          | (go_at_call 24; refine (CI.out _).mono ?_; rintro e w2 ⟨rfl, d2⟩; have D2 := Lib.hid (HD.out.trans d2); clear d2)
          | fail)
        go_roundw
        case rel => exact ⟨k + 1, cur2, by omega, rfl, by go_num, HE.out, D2.out⟩
        case measure => simp [intOf]; omega
    · have hnl : ¬ ((k : Int) < (n : Int)) := by omega
      have HE : Hid (cur = joinW l) := by show _ = _; rw [HC.out, List.take_of_length_le (by have := HN.out; omega)]
      clear hlt hk
      go_wp2_with fail
      go_ret
      exact ⟨by rw [HE.out]; rfl, HD.out⟩
end Go.Proofs.Sat
