/- The walks of the laws IsaParses and IsaBack. -/
import Derived.Test.YtiepphjpfjfkmaaGreatDoorMsR
set_option linter.unusedVariables false
set_option linter.unusedSimpArgs false
namespace Go.Proofs.Sat
open Go Go.RowKit
theorem inR_bounds {r n : Int} (hn : n ≤ 8) (h : inR r n = true) : -9223372036854775808 ≤ r ∧ r ≤ 9223372036854775807 := by
  unfold inR at h
  have := of_decide_eq_true h
  omega
theorem in_ok {w n : Int} {x : In} (hn : n ≤ 8) (h : insErr w n x = 0) (hi : 0 ≤ x.imm ∧ x.imm < 18446744073709551616) : InOK x := by
  obtain ⟨hk, hd, hu, -, -, h0, hr⟩ := insErr_ok h
  refine ⟨?_, fun r hm => ?_, hi⟩
  · by_cases hz : x.op = 0
    · rw [h0 hz]; omega
    · refine inR_bounds hn (hd ?_)
      unfold defsI
      unfold knownI at hk
      have := of_decide_eq_true hk
      simp
      omega
  · rw [← List.take_append_drop (srcN x.op).toNat [x.a, x.b, x.c]] at hm
    rcases List.mem_append.1 hm with hm | hm
    · exact inR_bounds hn (hu r hm)
    · rw [hr r hm]; omega
theorem cd_fine {c : Cd} (h : cdErr c = 0) (hi : ImmOK c.ins) : CdOK c ∧ c.ins.length ≤ 10000 ∧ c.out.length ≤ 10000 := by
  obtain ⟨h1, h2, h3, h4, h5, h6⟩ := cdErr_parts h
  refine ⟨⟨by omega, by omega, fun x hx => in_ok h2.2 (h4 x hx) (hi x hx), fun r hr => inR_bounds h2.2 (h5 r hr)⟩, by omega, ?_⟩
  obtain ⟨n, hn⟩ : ∃ n : Nat, c.regs = (n : Int) := ⟨c.regs.toNat, by omega⟩
  have := nodup_le (n := n) h6 (fun r hr => by rw [← hn]; exact h5 r hr)
  omega
theorem end_k {c d : Cd} {j : Int} (h : endW c = (d, j, 0)) : j = 0 := by
  unfold endW at h
  split at h
  · cases h; rfl
  · rename_i hc
    injection h with _ h
    injection h with _ h
    exact absurd h hc
theorem body_k {w n : Int} {c : Cd} {j : Int} : ∀ (ls : List (List UInt8)) (acc : List In) (k : Nat), bodyW w n acc k ls = (c, j, 0) → j = 0 := by
  intro ls
  induction ls with
  | nil => intro acc k h; rw [bodyW] at h; injection h with _ h; injection h with _ h; cases h
  | cons l r ih =>
    intro acc k h
    rw [bodyW] at h
    split at h
    · split at h
      · injection h with _ h; injection h with _ h; cases h
      · split at h
        · exact end_k h
        · injection h with _ h; injection h with _ h; cases h
    · split at h
      · injection h with _ h; injection h with _ h; cases h
      · exact ih _ _ h
theorem parse_k {s : List UInt8} {c : Cd} {j : Int} (h : parseW s = (c, j, 0)) : j = 0 := by
  unfold parseW at h
  split at h
  · injection h with _ h; injection h with _ h; cases h
  · split at h
    · injection h with _ h; injection h with _ h; cases h
    · split at h
      · injection h with _ h; injection h with _ h; cases h
      · exact body_k _ _ _ h
set_option maxRecDepth 20000 in
set_option maxHeartbeats 4000000 in
theorem law48_Parses (s : List UInt8) (w : World) (hT : MsT w) : Calls Tryz.prog 4 #[.string (strOf s)] w fun e w' => e = .returned (.bool true) ∧ Below w.heap.size w w' := by
  have HT := Lib.hid hT
  have hsz := strOf_size s
  have CL := Lib.hid (fun W (h : MsT W) => law48_lives W h)
  obtain ⟨m, hm⟩ : ∃ m, m = s.length := ⟨_, rfl⟩
  have HM := Lib.hid hm
  rw [← hm] at hsz
  clear hm hT
  go_enter Tryz.func4, Tryz.ntmps4
  by_cases hlong : 3000 < m
  · have t0 : (3000 : Int) < (m : Int) := by omega
    go_wp2_with fail
    refine (CL.out w HT.out).mono ?_
    rintro e w1 ⟨rfl, b1⟩
    go_wp2_with fail
    go_ret
    exact ⟨rfl, b1⟩
  have t0 : ¬ ((3000 : Int) < (m : Int)) := by omega
  have HL : Hid (s.length ≤ 1099511627776) := by
    have h9 := HM.out
    show s.length ≤ 1099511627776
    omega
  have hml : m ≤ 1099511627776 := by omega
  have CP := Lib.hid (isa_Parse s w HL.out HT.out.dig HT.out.nam HT.out.isa)
  have CR := Lib.hid (fun W => ref48_Parse s W HL.out)
  have PT := Lib.hid (fun c h => parse_text (s := s) (c := c) h)
  clear hlong
  go_wp2_with fail
  refine CP.out.mono ?_
  rintro e w1 ⟨c, ⟨ia, ic, oa, oc⟩, k, er, rfl, hp, r1, b1⟩
  have PT2 : Hid (er = 0 → (printL c = s ∨ printL c = s ++ [10]) ∧ CdOK c ∧ c.ins.length ≤ 10000 ∧ c.out.length ≤ 10000) := fun h1 => by
    rw [h1] at hp
    rw [parse_k hp.symm] at hp
    obtain ⟨q1, q2, q3⟩ := PT.out c hp.symm
    exact ⟨q1, cd_fine q2 q3⟩
  have R1 := Lib.hid (r1.frame (Same.alloc _ w1 (.cells #[.int .i64 c.width, .int .i64 c.regs, .slice ia c.ins.length ic, .slice oa c.out.length oc] 25)))
  have K1 := Lib.hid (heap_alloc_new w1 (.cells #[.int .i64 c.width, .int .i64 c.regs, .slice ia c.ins.length ic, .slice oa c.out.length oc] 25))
  have B1 := Lib.hid (below_alloc b1 (.cells #[.int .i64 c.width, .int .i64 c.regs, .slice ia c.ins.length ic, .slice oa c.out.length oc] 25))
  clear b1 r1
  go_wp2_with fail
  refine (CR.out _).mono ?_
  rintro e w2 ⟨d, ⟨ja, jc, qa, qc⟩, k2, er2, rfl, hp2, r2, b2⟩
  have hcd := hp.trans hp2.symm
  injection hcd with hc hcd
  injection hcd with hk he
  subst hc hk he
  have R2 := Lib.hid (r2.frame (Same.alloc _ w2 (.cells #[.int .i64 c.width, .int .i64 c.regs, .slice ja c.ins.length jc, .slice qa c.out.length qc] 25)))
  have R1b := Lib.hid ((R1.out.frame (same_all b2)).frame (Same.alloc _ w2 (.cells #[.int .i64 c.width, .int .i64 c.regs, .slice ja c.ins.length jc, .slice qa c.out.length qc] 25)))
  have K2 := Lib.hid (heap_alloc_new w2 (.cells #[.int .i64 c.width, .int .i64 c.regs, .slice ja c.ins.length jc, .slice qa c.out.length qc] 25))
  have K1b := Lib.hid (block_alloc (block_below b2 K1.out) (.cells #[.int .i64 c.width, .int .i64 c.regs, .slice ja c.ins.length jc, .slice qa c.out.length qc] 25))
  have B2 := Lib.hid (below_alloc (below_both B1.out b2) (.cells #[.int .i64 c.width, .int .i64 c.regs, .slice ja c.ins.length jc, .slice qa c.out.length qc] 25))
  obtain ⟨x0, x1, x2, x3⟩ := cd_block4 K1b.out
  obtain ⟨y0, y1, y2, y3⟩ := cd_block4 K2.out
  obtain ⟨W2, hW2⟩ : ∃ W2, W2 = w2.alloc (.cells #[.int .i64 c.width, .int .i64 c.regs, .slice ja c.ins.length jc, .slice qa c.out.length qc] 25) := ⟨_, rfl⟩
  have CS := Lib.hid (ref48_Same _ _ c c ⟨ia, ic, oa, oc⟩ ⟨ja, jc, qa, qc⟩ _ R1b.out R2.out)
  clear hp hp2 b2 r2 hW2 W2 CP CR
  go_wp2_with fail
  refine CS.out.mono ?_
  rintro e w3 ⟨rfl, b3⟩
  have B3 := Lib.hid (below_both B2.out b3)
  have K3 := Lib.hid (block_below b3 K1b.out)
  have R3 := Lib.hid (R1b.out.frame (same_all b3))
  simp only [decide_true]
  clear b3 x0 x1 x2 x3 y0 y1 y2 y3
  obtain ⟨x0, x1, x2, x3⟩ := cd_block4 K3.out
  by_cases he : er = 0
  · obtain ⟨q1, q2, q3, q4⟩ := PT2.out he
    have t1 : (er == 0) = true := by rw [beq_iff_eq]; exact he
    have CPR := Lib.hid (fun W (h : MsT W) (r : CdRd (fun b => w.heap.size ≤ b) W c ⟨ia, ic, oa, oc⟩) => isa_Print _ c ⟨ia, ic, oa, oc⟩ W h r q2 q3 q4)
    clear he
    rcases q1 with q1 | q1
    · rw [q1] at CPR
      go_wp2_with fail
      refine (CPR.out w3 (HT.out.below B3.out) R3.out).mono ?_
      rintro e w4 ⟨rfl, b4⟩
      have B4 := Lib.hid (below_both B3.out b4)
      clear b4
      go_wp2_with fail
      refine (CL.out w4 (HT.out.below B4.out)).mono ?_
      rintro e w9 ⟨rfl, b9⟩
      go_wp2_with fail
      go_ret
      exact ⟨rfl, below_both B4.out b9⟩
    · rw [q1] at CPR
      have hts := toList_strOf s
      have hts2 := toList_strOf (s ++ [10])
      have tne : (s ++ [10] == s) = false := by
        rw [beq_eq_false_iff_ne]
        intro h
        have := congrArg List.length h
        simp at this
      have ADD : ∀ W : World, (Op.stringOp .add (strOf s) { data := #[10] }).run Tryz.prog W = .ok (.string (strOf (s ++ [10]))) W := fun W => str_add s [10] (by have := HL.out; simp; omega) W
      go_wp2_with fail
      refine (CPR.out w3 (HT.out.below B3.out) R3.out).mono ?_
      rintro e w4 ⟨rfl, b4⟩
      have B4 := Lib.hid (below_both B3.out b4)
      have R4 := Lib.hid (R3.out.frame (same_all b4))
      obtain ⟨x0, x1, x2, x3⟩ := cd_block4 (block_below b4 K3.out)
      clear b4
      go_wp2_with fail
      refine (CPR.out w4 (HT.out.below B4.out) R4.out).mono ?_
      rintro e w5 ⟨rfl, b5⟩
      have B5 := Lib.hid (below_both B4.out b5)
      clear b5
      go_wp2_with fail
      refine (CL.out w5 (HT.out.below B5.out)).mono ?_
      rintro e w9 ⟨rfl, b9⟩
      go_wp2_with fail
      go_ret
      exact ⟨rfl, below_both B5.out b9⟩
  · have t1 : (er == 0) = false := by rw [beq_eq_false_iff_ne]; exact he
    clear he
    go_wp2_with fail
    refine (CL.out w3 (HT.out.below B3.out)).mono ?_
    rintro e w4 ⟨rfl, b4⟩
    go_wp2_with fail
    go_ret
    exact ⟨rfl, below_both B3.out b4⟩
end Go.Proofs.Sat
