/- The walk of the law IsaTables. -/
import Derived.Test.YtiepphjpfjfkmaaGreatDoorMsV
set_option linter.unusedVariables false
set_option linter.unusedSimpArgs false
namespace Go.Proofs.Sat
open Go Go.RowKit
set_option maxRecDepth 20000 in
set_option maxHeartbeats 4000000 in
theorem law48_Tables (op : Int) (s : List UInt8) (w : World) (hT : MsT w) : Calls Tryz.prog 6 #[.int .i64 op, .string (strOf s)] w fun e w' => e = .returned (.bool true) ∧ Below w.heap.size w w' := by
  have HT := Lib.hid hT
  have hsz := strOf_size s
  have CL := Lib.hid (fun W (h : MsT W) => law48_lives W h)
  have CO := Lib.hid (fun W (h : MsT W) => isa_Of s W h.nam h.isa)
  have CR := Lib.hid (fun W => ref48_Of s W)
  have CN := Lib.hid (fun W (h : MsT W) => isa_Name op W h.nam)
  have CNR := Lib.hid (fun W => ref48_Name op W)
  have CB := Lib.hid (fun W (h : MsT W) => isa_Of (nameL op) W h.nam h.isa)
  have CK := Lib.hid (fun W => ref48_Known op W)
  have HK : Hid (knownI op = true → ofD (nameL op) = op ∧ decide (0 ≤ ofI (nameL op)) = true) := fun h => by
    have e := ofI_name h
    have h0 : 0 ≤ op := by unfold knownI at h; exact (of_decide_eq_true h).1
    unfold ofD
    rw [e, if_pos h0]
    exact ⟨rfl, decide_eq_true h0⟩
  have CS := Lib.hid (fun W (h : MsT W) => isa_Sources op W h.isa)
  have CSR := Lib.hid (fun W => ref48_Sources op W)
  obtain ⟨m, hm⟩ : ∃ m, m = s.length := ⟨_, rfl⟩
  rw [← hm] at hsz
  clear hm hT
  go_enter Tryz.func6, Tryz.ntmps6
  by_cases hlong : 100 < m
  · have t0 : (100 : Int) < (m : Int) := by omega
    go_wp2_with fail
    refine (CL.out w HT.out).mono ?_
    rintro e w1 ⟨rfl, b1⟩
    go_wp2_with fail
    go_ret
    exact ⟨rfl, b1⟩
  have t0 : ¬ ((100 : Int) < (m : Int)) := by omega
  clear hlong
  generalize decide (0 ≤ ofI s) = ok at *
  generalize ofD s = fo at *
  generalize decide (0 ≤ ofI (nameL op)) = bk at *
  generalize ofD (nameL op) = bo at *
  generalize nameL op = nm at *
  generalize knownI op = kn at *
  go_wp2_with fail
  refine (CO.out w HT.out).mono ?_
  rintro e w1 ⟨rfl, b1⟩
  have B1 := Lib.hid b1
  clear b1
  go_wp2_with fail
  refine (CR.out w1).mono ?_
  rintro e w2 ⟨rfl, b2⟩
  have B2 := Lib.hid (below_both B1.out b2)
  clear b2
  go_wp2_with fail
  refine (CN.out w2 (HT.out.below B2.out)).mono ?_
  rintro e w3 ⟨rfl, ds⟩
  have B3 := Lib.hid (B2.out.trans (ds.below _))
  clear ds
  go_wp2_with fail
  refine (CB.out w3 (HT.out.below B3.out)).mono ?_
  rintro e w4 ⟨rfl, b4⟩
  have B4 := Lib.hid (below_both B3.out b4)
  clear b4
  go_wp2_with fail
  refine (CK.out w4).mono ?_
  rintro e w5 ⟨rfl, ds⟩
  have B5 := Lib.hid (B4.out.trans (ds.below _))
  clear ds
  have hways : kn = false ∨ (kn = true ∧ bk = true ∧ bo = op) := by
    cases kn
    · exact .inl rfl
    · obtain ⟨h1, h2⟩ := HK.out rfl
      exact .inr ⟨rfl, h2, h1⟩
  rcases hways with h | ⟨h, h2, h3⟩
  all_goals
    subst h
    try subst h2
    try subst h3
    go_wp2_with fail
    refine (CN.out w5 (HT.out.below B5.out)).mono ?_
    rintro e w6 ⟨rfl, d6⟩
    have B6 := Lib.hid (B5.out.trans (d6.below _))
    clear d6
    go_wp2_with fail
    refine (CNR.out w6).mono ?_
    rintro e w7 ⟨rfl, d7⟩
    have B7 := Lib.hid (below_both B6.out d7)
    clear d7
    go_wp2_with fail
    refine (CS.out w7 (HT.out.below B7.out)).mono ?_
    rintro e w8 ⟨rfl, d8⟩
    have B8 := Lib.hid (B7.out.trans (d8.below _))
    clear d8
    go_wp2_with fail
    refine (CSR.out w8).mono ?_
    rintro e w9 ⟨rfl, d9⟩
    have B9 := Lib.hid (B8.out.trans (d9.below _))
    clear d9
    go_wp2_with fail
    refine (isa_Traps _ w9).mono ?_
    rintro e w10 ⟨rfl, d10⟩
    have B10 := Lib.hid (B9.out.trans (d10.below _))
    clear d10
    go_wp2_with fail
    refine (ref48_Traps _ w10).mono ?_
    rintro e w11 ⟨rfl, d11⟩
    have B11 := Lib.hid (B10.out.trans (d11.below _))
    clear d11
    go_wp2_with fail
    refine (isa_Price _ w11).mono ?_
    rintro e w12 ⟨rfl, d12⟩
    have B12 := Lib.hid (B11.out.trans (d12.below _))
    clear d12
    go_wp2_with fail
    refine (ref48_Price _ w12).mono ?_
    rintro e w13 ⟨rfl, d13⟩
    have B13 := Lib.hid (B12.out.trans (d13.below _))
    clear d13
    go_wp2_with fail
    refine (CL.out w13 (HT.out.below B13.out)).mono ?_
    rintro e w14 ⟨rfl, d14⟩
    have B14 := Lib.hid (below_both B13.out d14)
    clear d14
    go_wp2_with fail
    go_ret
    exact ⟨rfl, B14.out⟩
end Go.Proofs.Sat
