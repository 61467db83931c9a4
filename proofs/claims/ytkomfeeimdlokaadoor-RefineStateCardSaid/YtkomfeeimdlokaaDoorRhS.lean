/- The walk of the law RefineState. -/
import Derived.Test.YtkomfeeimdlokaaDoorRhB
import Derived.BigQuiet
set_option linter.unusedVariables false
set_option linter.unusedSimpArgs false
namespace Go.Proofs.Sat
open Go Go.RowKit
set_option maxRecDepth 20000 in
set_option maxHeartbeats 2000000 in
theorem law_State (S : Nat → Prop) (L : List Int) (a : Option Addr) (ca : Nat) (W N idx : Int) (w : World) (hK : IsaT w) (hr : Rd (Kd.int .i64) S w a ca L) :
    Calls Tryd.prog 3 #[.slice a L.length ca, .int .i64 W, .int .i64 N, .int .i64 idx] w fun e w' => e = .returned (.bool true) ∧ Below w.heap.size w w' := by
  have hL := hr.le
  have HR := Lib.hid hr
  clear hr
  go_enter Tryd.func3, Tryd.ntmps3
  by_cases h20 : L.length ≤ 20
  · have t0 : decide ((L.length : Int) > 20) = false := decide_eq_false (by omega)
    have t0' : decide ((20 : Int) < (L.length : Int)) = false := decide_eq_false (by omega)
    have t0i : ¬ (20 : Int) < (L.length : Int) := by omega
    have C1 := Lib.hid (fun W1 (b : Below w.heap.size w W1) => refine_State S L a ca W N idx W1 (HR.out.frame (Same.below b)) (by omega))
    have C2 := Lib.hid (fun W1 (b : Below w.heap.size w W1) => ref53_State S L a ca W N idx W1 (HR.out.frame (Same.below b)) (by omega))
    have hn8 := numE_le N
    generalize stateE L W N idx = s at *
    generalize numE N = R at *
    go_wp2_with fail
    refine (C1.out _ (Below.refl _ _)).mono ?_
    rintro e w1 ⟨g1, rfl, -, s1, b1⟩
    have S1 := Lib.hid s1
    have B1 := Lib.hid b1
    clear s1 b1
    go_wp2_with fail
    refine (C2.out _ B1.out).mono ?_
    rintro e w2 ⟨g2, rfl, -, s2, b2⟩
    have S2 := Lib.hid s2
    have S1' := Lib.hid (S1.out.below b2)
    have B2 := Lib.hid (below_both B1.out b2)
    clear s2 b2
    have CE := ref49_Same (fun _ => True) (fun _ => True) (some ⟨g1, 0, none⟩) (some ⟨g2, 0, none⟩) R R (stL R s) (stL R s) w2 (S1'.out.rd _ trivial (by omega)) (S2.out.rd _ trivial (by omega))
    rw [stL_length, decide_eq_true rfl] at CE
    replace CE := Lib.hid CE
    go_wp2_with fail
    refine CE.out.mono ?_
    rintro e w3 ⟨rfl, d3⟩
    have B3 := Lib.hid (below_both B2.out (d3.below _))
    clear d3
    have CA := Lib.hid (law53_alive w3 (hK.below B3.out))
    go_wp2_with fail
    refine CA.out.mono ?_
    rintro e w4 ⟨rfl, b4⟩
    have B4 := Lib.hid (below_both B3.out b4)
    clear b4
    go_wp2_with fail
    go_ret
    exact ⟨rfl, B4.out⟩
  · have t0 : decide ((L.length : Int) > 20) = true := decide_eq_true (by omega)
    have t0' : decide ((20 : Int) < (L.length : Int)) = true := decide_eq_true (by omega)
    have t0i : (20 : Int) < (L.length : Int) := by omega
    have CA := Lib.hid (law53_alive w hK)
    go_wp2_with fail
    refine CA.out.mono ?_
    rintro e w4 ⟨rfl, b4⟩
    go_wp2_with fail
    go_ret
    exact ⟨rfl, b4⟩
end Go.Proofs.Sat
