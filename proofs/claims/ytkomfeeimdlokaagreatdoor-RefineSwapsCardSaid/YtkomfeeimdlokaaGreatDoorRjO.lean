/- The walk of the law RefineOrder. -/
import Derived.Test.YtkomfeeimdlokaaGreatDoorRmA
import Derived.Test.YtkomfeeimdlokaaGreatDoorRhB
import Derived.Test.YtkomfeeimdlokaaGreatDoorRjC
set_option linter.unusedVariables false
set_option linter.unusedSimpArgs false
namespace Go.Proofs.Sat
open Go Go.RowKit
theorem chkB_err {c d : Cd} (h : stsErr c d ≠ 0) : chkB c d = false := by unfold chkB; rw [decide_eq_false h]; rfl
theorem block_at2b (w : World) (o1 o2 o3 : Obj) : (((w.alloc o1).alloc o2).alloc o3).heap[w.heap.size + 2]? = some o3 := block_at2 w o1 o2 o3
set_option maxRecDepth 20000 in
set_option maxHeartbeats 4000000 in
theorem law_Order (a b c : Cd) (p q r : CdAt) (w : World) (hK : IsaT w) (h : CdRd (fun _ => True) w a p) (h' : CdRd (fun _ => True) w b q) (h'' : CdRd (fun _ => True) w c r) (ia : ∀ x ∈ a.ins, 0 ≤ x.imm ∧ x.imm < 18446744073709551616) (ib : ∀ x ∈ b.ins, 0 ≤ x.imm ∧ x.imm < 18446744073709551616) (ic : ∀ x ∈ c.ins, 0 ≤ x.imm ∧ x.imm < 18446744073709551616) :
    Calls Tryz.prog 5 #[cdVal a p, cdVal b q, cdVal c r] w fun e w' => e = .returned (.bool true) ∧ Below w.heap.size w w' := by
  have Fab := Lib.hid (fun W (b' : Below w.heap.size w W) => ref53_Few (fun _ => True) a b p q W (h.frame (Same.below b')) (h'.frame (Same.below b')) ia ib)
  have Cab := Lib.hid (fun W (b' : Below w.heap.size w W) ho ho' => refine_Check (fun _ => True) a b p q W (hK.below b') (h.frame (Same.below b')) (h'.frame (Same.below b')) ho ho' ia ib)
  have Fbc := Lib.hid (fun W (b' : Below w.heap.size w W) => ref53_Few (fun _ => True) b c q r W (h'.frame (Same.below b')) (h''.frame (Same.below b')) ib ic)
  have Cbc := Lib.hid (fun W (b' : Below w.heap.size w W) ho ho' => refine_Check (fun _ => True) b c q r W (hK.below b') (h'.frame (Same.below b')) (h''.frame (Same.below b')) ho ho' ib ic)
  have Fac := Lib.hid (fun W (b' : Below w.heap.size w W) => ref53_Few (fun _ => True) a c p r W (h.frame (Same.below b')) (h''.frame (Same.below b')) ia ic)
  have Cac := Lib.hid (fun W (b' : Below w.heap.size w W) ho ho' => refine_Check (fun _ => True) a c p r W (hK.below b') (h.frame (Same.below b')) (h''.frame (Same.below b')) ho ho' ia ic)
  have Faa := Lib.hid (fun W (b' : Below w.heap.size w W) => ref53_Few (fun _ => True) a a p p W (h.frame (Same.below b')) (h.frame (Same.below b')) ia ia)
  have Caa := Lib.hid (fun W (b' : Below w.heap.size w W) ho ho' => refine_Check (fun _ => True) a a p p W (hK.below b') (h.frame (Same.below b')) (h.frame (Same.below b')) ho ho' ia ia)
  have CA := Lib.hid (fun W (b' : Below w.heap.size w W) => law53_alive W (hK.below b'))
  clear h h' h'' hK ia ib ic
  obtain ⟨ia, ic, oa, oc⟩ := p
  obtain ⟨ja, jc, qa, qc⟩ := q
  obtain ⟨ka, kc, ra, rc⟩ := r
  have B0 := Lib.hid (below_alloc (below_alloc (below_alloc (Below.refl w.heap.size w) (.cells (cellsC a ia ic oa oc) 25)) (.cells (cellsC b ja jc qa qc) 25)) (.cells (cellsC c ka kc ra rc) 25))
  have KA0 := Lib.hid (block_alloc (block_alloc (heap_alloc_new w (.cells (cellsC a ia ic oa oc) 25)) (.cells (cellsC b ja jc qa qc) 25)) (.cells (cellsC c ka kc ra rc) 25))
  have KB0 := Lib.hid (block_alloc (block_at1 w (.cells (cellsC a ia ic oa oc) 25) (.cells (cellsC b ja jc qa qc) 25)) (.cells (cellsC c ka kc ra rc) 25))
  have KC0 := Lib.hid (block_at2b w (.cells (cellsC a ia ic oa oc) 25) (.cells (cellsC b ja jc qa qc) 25) (.cells (cellsC c ka kc ra rc) 25))
  unfold cdVal
  go_enter Tryz.func5, Tryz.ntmps5
  obtain ⟨xa0, xa1, xa2, xa3⟩ := cd_block4 KA0.out
  obtain ⟨xb0, xb1, xb2, xb3⟩ := cd_block4 KB0.out
  obtain ⟨xc0, xc1, xc2, xc3⟩ := cd_block4 KC0.out
  cases fab : fewB a b
  · rw [fab] at Fab
    go_wp2_with fail
    refine (Fab.out _ B0.out).mono ?_
    rintro e w1 ⟨rfl, b1⟩
    have B1 := Lib.hid (below_both B0.out b1)
    have KA1 := Lib.hid (block_below b1 KA0.out)
    have KB1 := Lib.hid (block_below b1 KB0.out)
    have KC1 := Lib.hid (block_below b1 KC0.out)
    clear b1 KA0 KB0 KC0
    clear xa0 xa1 xa2 xa3 xb0 xb1 xb2 xb3 xc0 xc1 xc2 xc3
    obtain ⟨xa0, xa1, xa2, xa3⟩ := cd_block4 KA1.out
    obtain ⟨xb0, xb1, xb2, xb3⟩ := cd_block4 KB1.out
    obtain ⟨xc0, xc1, xc2, xc3⟩ := cd_block4 KC1.out
    go_wp2_with fail
    refine (CA.out _ B1.out).mono ?_
    rintro e wz ⟨rfl, bz⟩
    go_wp2_with fail
    go_ret
    exact ⟨rfl, below_both B1.out bz⟩
  have Lab := Lib.hid (few_lens fab)
  rw [fab] at Fab
  clear fab
  go_wp2_with fail
  refine (Fab.out _ B0.out).mono ?_
  rintro e w1 ⟨rfl, b1⟩
  have B1 := Lib.hid (below_both B0.out b1)
  have KA1 := Lib.hid (block_below b1 KA0.out)
  have KB1 := Lib.hid (block_below b1 KB0.out)
  have KC1 := Lib.hid (block_below b1 KC0.out)
  clear b1 KA0 KB0 KC0
  clear xa0 xa1 xa2 xa3 xb0 xb1 xb2 xb3 xc0 xc1 xc2 xc3
  obtain ⟨xa0, xa1, xa2, xa3⟩ := cd_block4 KA1.out
  obtain ⟨xb0, xb1, xb2, xb3⟩ := cd_block4 KB1.out
  obtain ⟨xc0, xc1, xc2, xc3⟩ := cd_block4 KC1.out
  cases fbc : fewB b c
  · rw [fbc] at Fbc
    go_wp2_with fail
    refine (Fbc.out _ B1.out).mono ?_
    rintro e w2 ⟨rfl, b2⟩
    have B2 := Lib.hid (below_both B1.out b2)
    have KA2 := Lib.hid (block_below b2 KA1.out)
    have KB2 := Lib.hid (block_below b2 KB1.out)
    have KC2 := Lib.hid (block_below b2 KC1.out)
    clear b2 KA1 KB1 KC1
    clear xa0 xa1 xa2 xa3 xb0 xb1 xb2 xb3 xc0 xc1 xc2 xc3
    obtain ⟨xa0, xa1, xa2, xa3⟩ := cd_block4 KA2.out
    obtain ⟨xb0, xb1, xb2, xb3⟩ := cd_block4 KB2.out
    obtain ⟨xc0, xc1, xc2, xc3⟩ := cd_block4 KC2.out
    go_wp2_with fail
    refine (CA.out _ B2.out).mono ?_
    rintro e wz ⟨rfl, bz⟩
    go_wp2_with fail
    go_ret
    exact ⟨rfl, below_both B2.out bz⟩
  have Lbc := Lib.hid (few_lens fbc)
  rw [fbc] at Fbc
  clear fbc
  go_wp2_with fail
  refine (Fbc.out _ B1.out).mono ?_
  rintro e w2 ⟨rfl, b2⟩
  have B2 := Lib.hid (below_both B1.out b2)
  have KA2 := Lib.hid (block_below b2 KA1.out)
  have KB2 := Lib.hid (block_below b2 KB1.out)
  have KC2 := Lib.hid (block_below b2 KC1.out)
  clear b2 KA1 KB1 KC1
  clear xa0 xa1 xa2 xa3 xb0 xb1 xb2 xb3 xc0 xc1 xc2 xc3
  obtain ⟨xa0, xa1, xa2, xa3⟩ := cd_block4 KA2.out
  obtain ⟨xb0, xb1, xb2, xb3⟩ := cd_block4 KB2.out
  obtain ⟨xc0, xc1, xc2, xc3⟩ := cd_block4 KC2.out
  cases fac : fewB a c
  · rw [fac] at Fac
    go_wp2_with fail
    refine (Fac.out _ B2.out).mono ?_
    rintro e w3 ⟨rfl, b3⟩
    have B3 := Lib.hid (below_both B2.out b3)
    have KA3 := Lib.hid (block_below b3 KA2.out)
    have KB3 := Lib.hid (block_below b3 KB2.out)
    have KC3 := Lib.hid (block_below b3 KC2.out)
    clear b3 KA2 KB2 KC2
    clear xa0 xa1 xa2 xa3 xb0 xb1 xb2 xb3 xc0 xc1 xc2 xc3
    obtain ⟨xa0, xa1, xa2, xa3⟩ := cd_block4 KA3.out
    obtain ⟨xb0, xb1, xb2, xb3⟩ := cd_block4 KB3.out
    obtain ⟨xc0, xc1, xc2, xc3⟩ := cd_block4 KC3.out
    go_wp2_with fail
    refine (CA.out _ B3.out).mono ?_
    rintro e wz ⟨rfl, bz⟩
    go_wp2_with fail
    go_ret
    exact ⟨rfl, below_both B3.out bz⟩
  have Lac := Lib.hid (few_lens fac)
  rw [fac] at Fac
  clear fac
  go_wp2_with fail
  refine (Fac.out _ B2.out).mono ?_
  rintro e w3 ⟨rfl, b3⟩
  have B3 := Lib.hid (below_both B2.out b3)
  have KA3 := Lib.hid (block_below b3 KA2.out)
  have KB3 := Lib.hid (block_below b3 KB2.out)
  have KC3 := Lib.hid (block_below b3 KC2.out)
  clear b3 KA2 KB2 KC2
  clear xa0 xa1 xa2 xa3 xb0 xb1 xb2 xb3 xc0 xc1 xc2 xc3
  obtain ⟨xa0, xa1, xa2, xa3⟩ := cd_block4 KA3.out
  obtain ⟨xb0, xb1, xb2, xb3⟩ := cd_block4 KB3.out
  obtain ⟨xc0, xc1, xc2, xc3⟩ := cd_block4 KC3.out
  cases faa : fewB a a
  · rw [faa] at Faa
    go_wp2_with fail
    refine (Faa.out _ B3.out).mono ?_
    rintro e w4 ⟨rfl, b4⟩
    have B4 := Lib.hid (below_both B3.out b4)
    have KA4 := Lib.hid (block_below b4 KA3.out)
    have KB4 := Lib.hid (block_below b4 KB3.out)
    have KC4 := Lib.hid (block_below b4 KC3.out)
    clear b4 KA3 KB3 KC3
    clear xa0 xa1 xa2 xa3 xb0 xb1 xb2 xb3 xc0 xc1 xc2 xc3
    obtain ⟨xa0, xa1, xa2, xa3⟩ := cd_block4 KA4.out
    obtain ⟨xb0, xb1, xb2, xb3⟩ := cd_block4 KB4.out
    obtain ⟨xc0, xc1, xc2, xc3⟩ := cd_block4 KC4.out
    go_wp2_with fail
    refine (CA.out _ B4.out).mono ?_
    rintro e wz ⟨rfl, bz⟩
    go_wp2_with fail
    go_ret
    exact ⟨rfl, below_both B4.out bz⟩
  have Laa := Lib.hid (few_lens faa)
  rw [faa] at Faa
  clear faa
  go_wp2_with fail
  refine (Faa.out _ B3.out).mono ?_
  rintro e w4 ⟨rfl, b4⟩
  have B4 := Lib.hid (below_both B3.out b4)
  have KA4 := Lib.hid (block_below b4 KA3.out)
  have KB4 := Lib.hid (block_below b4 KB3.out)
  have KC4 := Lib.hid (block_below b4 KC3.out)
  clear b4 KA3 KB3 KC3
  clear xa0 xa1 xa2 xa3 xb0 xb1 xb2 xb3 xc0 xc1 xc2 xc3
  obtain ⟨xa0, xa1, xa2, xa3⟩ := cd_block4 KA4.out
  obtain ⟨xb0, xb1, xb2, xb3⟩ := cd_block4 KB4.out
  obtain ⟨xc0, xc1, xc2, xc3⟩ := cd_block4 KC4.out
  go_wp2_with fail
  refine (Caa.out _ B4.out Laa.out.2.2.1 Laa.out.2.2.2).mono ?_
  rintro e w5 ⟨z1, z2, rfl, -, b5⟩
  have B5 := Lib.hid (below_both B4.out b5)
  have KA5 := Lib.hid (block_below b5 KA4.out)
  have KB5 := Lib.hid (block_below b5 KB4.out)
  have KC5 := Lib.hid (block_below b5 KC4.out)
  clear b5 KA4 KB4 KC4
  clear xa0 xa1 xa2 xa3 xb0 xb1 xb2 xb3 xc0 xc1 xc2 xc3
  obtain ⟨xa0, xa1, xa2, xa3⟩ := cd_block4 KA5.out
  obtain ⟨xb0, xb1, xb2, xb3⟩ := cd_block4 KB5.out
  obtain ⟨xc0, xc1, xc2, xc3⟩ := cd_block4 KC5.out
  have hself : (stsErr a a = 0 ∧ chkB a a = true) ∨ (stsErr a a ≠ 0 ∧ chkB a a = false) := by
    by_cases hs : stsErr a a = 0
    · exact .inl ⟨hs, chk_self hs⟩
    · exact .inr ⟨hs, chkB_err hs⟩
  have hab := chkB_err (c := a) (d := b)
  have hbc := chkB_err (c := b) (d := c)
  have hac := chkB_err (c := a) (d := c)
  have htr := chk_trans (a := a) (b := b) (c := c)
  have HT := Lib.hid htr
  have HAB := Lib.hid hab
  clear htr hab hbc hac
  generalize stsErr a a = eaa at *
  generalize chkB a a = baa at *
  generalize stsErr a b = eab at *
  generalize chkB a b = bab at *
  generalize stsErr b c = ebc at *
  generalize chkB b c = bbc at *
  generalize stsErr a c = eac at *
  generalize chkB a c = bac at *
  rcases hself with ⟨hs1, rfl⟩ | ⟨hs1, rfl⟩
  · clear hs1
    go_wp2_with fail
    refine (Cab.out _ B5.out Lab.out.2.2.1 Lab.out.2.2.2).mono ?_
    rintro e w6 ⟨z3, z4, rfl, -, b6⟩
    have B6 := Lib.hid (below_both B5.out b6)
    have KA6 := Lib.hid (block_below b6 KA5.out)
    have KB6 := Lib.hid (block_below b6 KB5.out)
    have KC6 := Lib.hid (block_below b6 KC5.out)
    clear b6 KA5 KB5 KC5
    clear xa0 xa1 xa2 xa3 xb0 xb1 xb2 xb3 xc0 xc1 xc2 xc3
    obtain ⟨xa0, xa1, xa2, xa3⟩ := cd_block4 KA6.out
    obtain ⟨xb0, xb1, xb2, xb3⟩ := cd_block4 KB6.out
    obtain ⟨xc0, xc1, xc2, xc3⟩ := cd_block4 KC6.out
    go_wp2_with fail
    refine (Cbc.out _ B6.out Lbc.out.2.2.1 Lbc.out.2.2.2).mono ?_
    rintro e w7 ⟨z5, z6, rfl, -, b7⟩
    have B7 := Lib.hid (below_both B6.out b7)
    have KA7 := Lib.hid (block_below b7 KA6.out)
    have KB7 := Lib.hid (block_below b7 KB6.out)
    have KC7 := Lib.hid (block_below b7 KC6.out)
    clear b7 KA6 KB6 KC6
    clear xa0 xa1 xa2 xa3 xb0 xb1 xb2 xb3 xc0 xc1 xc2 xc3
    obtain ⟨xa0, xa1, xa2, xa3⟩ := cd_block4 KA7.out
    obtain ⟨xb0, xb1, xb2, xb3⟩ := cd_block4 KB7.out
    obtain ⟨xc0, xc1, xc2, xc3⟩ := cd_block4 KC7.out
    go_wp2_with fail
    refine (Cac.out _ B7.out Lac.out.2.2.1 Lac.out.2.2.2).mono ?_
    rintro e w8 ⟨z7, z8, rfl, -, b8⟩
    have B8 := Lib.hid (below_both B7.out b8)
    have KA8 := Lib.hid (block_below b8 KA7.out)
    have KB8 := Lib.hid (block_below b8 KB7.out)
    have KC8 := Lib.hid (block_below b8 KC7.out)
    clear b8 KA7 KB7 KC7
    clear xa0 xa1 xa2 xa3 xb0 xb1 xb2 xb3 xc0 xc1 xc2 xc3
    obtain ⟨xa0, xa1, xa2, xa3⟩ := cd_block4 KA8.out
    obtain ⟨xb0, xb1, xb2, xb3⟩ := cd_block4 KB8.out
    obtain ⟨xc0, xc1, xc2, xc3⟩ := cd_block4 KC8.out
    by_cases h1 : eab = 0
    case neg =>
      have t1 : (eab != 0) = true := by simpa using h1
      clear h1
      go_wp2_with fail
      refine (CA.out _ B8.out).mono ?_
      rintro e wz ⟨rfl, bz⟩
      go_wp2_with fail
      go_ret
      exact ⟨rfl, below_both B8.out bz⟩
    have t1 : (eab != 0) = false := by simpa using h1
    by_cases h2 : ebc = 0
    case neg =>
      have t2 : (ebc != 0) = true := by simpa using h2
      clear h1 h2
      go_wp2_with fail
      refine (CA.out _ B8.out).mono ?_
      rintro e wz ⟨rfl, bz⟩
      go_wp2_with fail
      go_ret
      exact ⟨rfl, below_both B8.out bz⟩
    have t2 : (ebc != 0) = false := by simpa using h2
    by_cases h3 : eac = 0
    case neg =>
      have t3 : (eac != 0) = true := by simpa using h3
      clear h1 h2 h3
      go_wp2_with fail
      refine (CA.out _ B8.out).mono ?_
      rintro e wz ⟨rfl, bz⟩
      go_wp2_with fail
      go_ret
      exact ⟨rfl, below_both B8.out bz⟩
    have t3 : (eac != 0) = false := by simpa using h3
    have HTT := Lib.hid (HT.out h1 h2 h3)
    clear h1 h2 h3
    cases bab
    · skip
      go_wp2_with fail
      refine (CA.out _ B8.out).mono ?_
      rintro e wz ⟨rfl, bz⟩
      go_wp2_with fail
      go_ret
      exact ⟨rfl, below_both B8.out bz⟩
    cases bbc
    · skip
      go_wp2_with fail
      refine (CA.out _ B8.out).mono ?_
      rintro e wz ⟨rfl, bz⟩
      go_wp2_with fail
      go_ret
      exact ⟨rfl, below_both B8.out bz⟩
    obtain rfl := HTT.out rfl rfl
    go_wp2_with fail
    refine (CA.out _ B8.out).mono ?_
    rintro e wz ⟨rfl, bz⟩
    go_wp2_with fail
    go_ret
    exact ⟨rfl, below_both B8.out bz⟩
  · have t0 : (eaa == 0) = false := by simpa using hs1
    clear hs1
    go_wp2_with fail
    refine (Cab.out _ B5.out Lab.out.2.2.1 Lab.out.2.2.2).mono ?_
    rintro e w6 ⟨z3, z4, rfl, -, b6⟩
    have B6 := Lib.hid (below_both B5.out b6)
    have KA6 := Lib.hid (block_below b6 KA5.out)
    have KB6 := Lib.hid (block_below b6 KB5.out)
    have KC6 := Lib.hid (block_below b6 KC5.out)
    clear b6 KA5 KB5 KC5
    clear xa0 xa1 xa2 xa3 xb0 xb1 xb2 xb3 xc0 xc1 xc2 xc3
    obtain ⟨xa0, xa1, xa2, xa3⟩ := cd_block4 KA6.out
    obtain ⟨xb0, xb1, xb2, xb3⟩ := cd_block4 KB6.out
    obtain ⟨xc0, xc1, xc2, xc3⟩ := cd_block4 KC6.out
    go_wp2_with fail
    refine (Cbc.out _ B6.out Lbc.out.2.2.1 Lbc.out.2.2.2).mono ?_
    rintro e w7 ⟨z5, z6, rfl, -, b7⟩
    have B7 := Lib.hid (below_both B6.out b7)
    have KA7 := Lib.hid (block_below b7 KA6.out)
    have KB7 := Lib.hid (block_below b7 KB6.out)
    have KC7 := Lib.hid (block_below b7 KC6.out)
    clear b7 KA6 KB6 KC6
    clear xa0 xa1 xa2 xa3 xb0 xb1 xb2 xb3 xc0 xc1 xc2 xc3
    obtain ⟨xa0, xa1, xa2, xa3⟩ := cd_block4 KA7.out
    obtain ⟨xb0, xb1, xb2, xb3⟩ := cd_block4 KB7.out
    obtain ⟨xc0, xc1, xc2, xc3⟩ := cd_block4 KC7.out
    go_wp2_with fail
    refine (Cac.out _ B7.out Lac.out.2.2.1 Lac.out.2.2.2).mono ?_
    rintro e w8 ⟨z7, z8, rfl, -, b8⟩
    have B8 := Lib.hid (below_both B7.out b8)
    have KA8 := Lib.hid (block_below b8 KA7.out)
    have KB8 := Lib.hid (block_below b8 KB7.out)
    have KC8 := Lib.hid (block_below b8 KC7.out)
    clear b8 KA7 KB7 KC7
    clear xa0 xa1 xa2 xa3 xb0 xb1 xb2 xb3 xc0 xc1 xc2 xc3
    obtain ⟨xa0, xa1, xa2, xa3⟩ := cd_block4 KA8.out
    obtain ⟨xb0, xb1, xb2, xb3⟩ := cd_block4 KB8.out
    obtain ⟨xc0, xc1, xc2, xc3⟩ := cd_block4 KC8.out
    by_cases h1 : eab = 0
    case neg =>
      have t1 : (eab != 0) = true := by simpa using h1
      clear h1
      go_wp2_with fail
      refine (CA.out _ B8.out).mono ?_
      rintro e wz ⟨rfl, bz⟩
      go_wp2_with fail
      go_ret
      exact ⟨rfl, below_both B8.out bz⟩
    have t1 : (eab != 0) = false := by simpa using h1
    by_cases h2 : ebc = 0
    case neg =>
      have t2 : (ebc != 0) = true := by simpa using h2
      clear h1 h2
      go_wp2_with fail
      refine (CA.out _ B8.out).mono ?_
      rintro e wz ⟨rfl, bz⟩
      go_wp2_with fail
      go_ret
      exact ⟨rfl, below_both B8.out bz⟩
    have t2 : (ebc != 0) = false := by simpa using h2
    by_cases h3 : eac = 0
    case neg =>
      have t3 : (eac != 0) = true := by simpa using h3
      clear h1 h2 h3
      go_wp2_with fail
      refine (CA.out _ B8.out).mono ?_
      rintro e wz ⟨rfl, bz⟩
      go_wp2_with fail
      go_ret
      exact ⟨rfl, below_both B8.out bz⟩
    have t3 : (eac != 0) = false := by simpa using h3
    have HTT := Lib.hid (HT.out h1 h2 h3)
    clear h1 h2 h3
    cases bab
    · skip
      go_wp2_with fail
      refine (CA.out _ B8.out).mono ?_
      rintro e wz ⟨rfl, bz⟩
      go_wp2_with fail
      go_ret
      exact ⟨rfl, below_both B8.out bz⟩
    cases bbc
    · skip
      go_wp2_with fail
      refine (CA.out _ B8.out).mono ?_
      rintro e wz ⟨rfl, bz⟩
      go_wp2_with fail
      go_ret
      exact ⟨rfl, below_both B8.out bz⟩
    obtain rfl := HTT.out rfl rfl
    go_wp2_with fail
    refine (CA.out _ B8.out).mono ?_
    rintro e wz ⟨rfl, bz⟩
    go_wp2_with fail
    go_ret
    exact ⟨rfl, below_both B8.out bz⟩
end Go.Proofs.Sat
