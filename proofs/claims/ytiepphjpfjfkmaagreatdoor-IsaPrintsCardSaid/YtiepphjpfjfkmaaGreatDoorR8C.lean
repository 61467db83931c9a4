/- R8A, R8B, R8C, one after the other. -/
import Derived.Test.YtiepphjpfjfkmaaGreatDoorLvU
import Derived.Test.YtiepphjpfjfkmaaGreatDoorLvI
import Derived.Test.YtiepphjpfjfkmaaGreatDoorRaE
import Derived.Test.YtiepphjpfjfkmaaGreatDoorIsaK
set_option linter.unusedVariables false
set_option linter.unusedSimpArgs false
/- Walks of the reference of ch. 48: Known, Sources, Uses, Def. -/
namespace Go.Proofs.Sat
open Go Go.RowKit
set_option maxHeartbeats 1000000 in
theorem ref48_Known (op : Int) (w : World) : Calls Tryz.prog 21 #[.int .i64 op] w fun e w' => e = .returned (.bool (knownI op)) ∧ Drawn w w' := by
  go_enter Tryz.func21, Tryz.ntmps21
  by_cases h0 : 0 ≤ op
  · by_cases h1 : op ≤ 19
    · have HE : Hid (knownI op = true) := decide_eq_true ⟨h0, h1⟩
      rw [HE.out]
      go_wp2
      all_goals go_ret
      all_goals exact ⟨rfl, by first | exact Drawn.refl _ | exact Drawn.of _ _⟩
    · have HE : Hid (knownI op = false) := decide_eq_false (by omega)
      rw [HE.out]
      go_wp2
      all_goals go_ret
      all_goals exact ⟨rfl, by first | exact Drawn.refl _ | exact Drawn.of _ _⟩
  · have HE : Hid (knownI op = false) := decide_eq_false (by omega)
    rw [HE.out]
    go_wp2
    all_goals go_ret
    all_goals exact ⟨rfl, by first | exact Drawn.refl _ | exact Drawn.of _ _⟩
theorem known_false {op : Int} (h : knownI op = false) : srcN op = -1 := by
  unfold knownI at h
  rw [decide_eq_false_iff_not] at h
  unfold srcN
  rw [if_pos (by omega)]
set_option maxHeartbeats 1000000 in
theorem ref48_Sources (op : Int) (w : World) : Calls Tryz.prog 24 #[.int .i64 op] w fun e w' => e = .returned (.int .i64 (srcN op)) ∧ Drawn w w' := by
  go_enter Tryz.func24, Tryz.ntmps24
  go_wp2_with fail
  refine (ref48_Known op w).mono ?_
  rintro e w1 ⟨rfl, d1⟩
  have D1 := Lib.hid d1
  clear d1
  cases hk : knownI op
  · have HE := Lib.hid (known_false hk)
    clear hk
    go_wp2_with fail
    all_goals go_ret
    all_goals exact ⟨ret_int HE.out.symm, by first | exact D1.out | exact D1.out.step _⟩
  have hk' := (decide_eq_true_iff (p := 0 ≤ op ∧ op ≤ 19)).1 hk
  obtain ⟨k0, k1⟩ := hk'
  clear hk
  have HE0 : Hid (srcN op = if op ≤ 1 then 0 else if op ≤ 4 then 1 else if op = 19 then 3 else 2) := by show _ = _; unfold srcN; rw [if_neg (by omega)]
  rcases (show op = 0 ∨ op = 1 ∨ op = 2 ∨ op = 3 ∨ op = 4 ∨ op = 19 ∨ (5 ≤ op ∧ op ≤ 18) by omega) with rfl | rfl | rfl | rfl | rfl | rfl | ⟨h5, h18⟩
  · have HE : Hid (srcN 0 = 0) := by show _ = _; rw [HE0.out]; decide
    clear HE0 k0 k1
    go_wp2_with fail
    all_goals go_ret
    all_goals exact ⟨ret_int HE.out.symm, by first | exact D1.out | exact D1.out.step _⟩
  · have HE : Hid (srcN 1 = 0) := by show _ = _; rw [HE0.out]; decide
    clear HE0 k0 k1
    go_wp2_with fail
    all_goals go_ret
    all_goals exact ⟨ret_int HE.out.symm, by first | exact D1.out | exact D1.out.step _⟩
  · have HE : Hid (srcN 2 = 1) := by show _ = _; rw [HE0.out]; decide
    clear HE0 k0 k1
    go_wp2_with fail
    all_goals go_ret
    all_goals exact ⟨ret_int HE.out.symm, by first | exact D1.out | exact D1.out.step _⟩
  · have HE : Hid (srcN 3 = 1) := by show _ = _; rw [HE0.out]; decide
    clear HE0 k0 k1
    go_wp2_with fail
    all_goals go_ret
    all_goals exact ⟨ret_int HE.out.symm, by first | exact D1.out | exact D1.out.step _⟩
  · have HE : Hid (srcN 4 = 1) := by show _ = _; rw [HE0.out]; decide
    clear HE0 k0 k1
    go_wp2_with fail
    all_goals go_ret
    all_goals exact ⟨ret_int HE.out.symm, by first | exact D1.out | exact D1.out.step _⟩
  · have HE : Hid (srcN 19 = 3) := by show _ = _; rw [HE0.out]; decide
    clear HE0 k0 k1
    go_wp2_with fail
    all_goals go_ret
    all_goals exact ⟨ret_int HE.out.symm, by first | exact D1.out | exact D1.out.step _⟩
  have HE : Hid (srcN op = 2) := by show _ = _; rw [HE0.out, if_neg (by omega), if_neg (by omega), if_neg (by omega)]
  have u0 : (op == 0) = false := by simp; omega
  have u1 : (op == 1) = false := by simp; omega
  have u2 : (op == 2) = false := by simp; omega
  have u3 : (op == 3) = false := by simp; omega
  have u4 : (op == 4) = false := by simp; omega
  have u5 : (op == 19) = false := by simp; omega
  clear HE0 h5 h18 k0 k1
  go_wp2_with fail
  all_goals go_ret
  all_goals exact ⟨ret_int HE.out.symm, by first | exact D1.out | exact D1.out.step _⟩
/-- The register that is defined; 0 where none is. -/
def defD (x : In) : Int := if defsI x = true then x.dst else 0
theorem ret_ib {a a' : Int} {b b' : Bool} (h1 : a = a') (h2 : b = b') : Ending.returned (.tuple #[.int .i64 a, .bool b]) = .returned (.tuple #[.int .i64 a', .bool b']) := by rw [h1, h2]
set_option maxHeartbeats 1000000 in
theorem ref48_Def (x : In) (w : World) : Calls Tryz.prog 65 #[inVal x] w fun e w' => e = .returned (.tuple #[.int .i64 (defD x), .bool (defsI x)]) ∧ Below w.heap.size w w' := by
  have BW := Lib.hid (below_alloc (Below.refl w.heap.size w) (.cells #[.int .i64 x.op, .int .i64 x.dst, .int .i64 x.a, .int .i64 x.b, .int .i64 x.c, .int .u64 x.imm] 48))
  have KX := Lib.hid (heap_alloc_new w (.cells #[.int .i64 x.op, .int .i64 x.dst, .int .i64 x.a, .int .i64 x.b, .int .i64 x.c, .int .u64 x.imm] 48))
  unfold inVal
  go_enter Tryz.func65, Tryz.ntmps65
  go_wp2_with fail
  refine (ref48_Known x.op _).mono ?_
  rintro e w1 ⟨rfl, d1⟩
  have B1 := Lib.hid (BW.out.trans (d1.below _))
  obtain ⟨x0, x1, x2, x3, x4, x5⟩ := in_block (d1.heap KX.out)
  clear d1 BW KX
  cases hk : knownI x.op
  · have HE0 : Hid (defsI x = false) := by
      have h : ¬ (0 ≤ x.op ∧ x.op ≤ 19) := (decide_eq_false_iff_not (p := 0 ≤ x.op ∧ x.op ≤ 19)).1 hk
      exact decide_eq_false (by omega)
    have HE : Hid (0 = defD x) := by show _ = _; unfold defD; rw [HE0.out]; rfl
    clear hk
    go_wp2_with fail
    all_goals go_ret2
    all_goals exact ⟨ret_ib HE.out HE0.out.symm, B1.out⟩
  have hk' := (decide_eq_true_iff (p := 0 ≤ x.op ∧ x.op ≤ 19)).1 hk
  by_cases h0 : x.op = 0
  · have HE0 : Hid (defsI x = false) := decide_eq_false (by omega)
    have t0 : (x.op == 0) = true := by simpa using h0
    have HE : Hid (0 = defD x) := by show _ = _; unfold defD; rw [HE0.out]; rfl
    clear hk hk' h0
    go_wp2_with fail
    all_goals go_ret2
    all_goals exact ⟨ret_ib HE.out HE0.out.symm, B1.out⟩
  · have HE0 : Hid (defsI x = true) := decide_eq_true (by omega)
    have t0 : (x.op == 0) = false := by simpa using h0
    have HE : Hid (x.dst = defD x) := by show _ = _; unfold defD; rw [HE0.out]; rfl
    clear hk hk' h0
    go_wp2_with fail
    all_goals go_ret2
    all_goals exact ⟨ret_ib HE.out HE0.out.symm, B1.out⟩
set_option maxHeartbeats 1000000 in
theorem ref48_Uses (x : In) (w : World) : Calls Tryz.prog 64 #[inVal x] w fun e w' => ∃ a c, e = .returned (.slice a (usesI x).length c) ∧ Rd (Kd.int .i64) (fun b => w.heap.size ≤ b) w' a c (usesI x) ∧ Below w.heap.size w w' := by
  have BW := Lib.hid (below_alloc (below_alloc (Below.refl w.heap.size w) (.cells #[.int .i64 x.op, .int .i64 x.dst, .int .i64 x.a, .int .i64 x.b, .int .i64 x.c, .int .u64 x.imm] 48)) (.cells #[.int .i64 x.a, .int .i64 x.b, .int .i64 x.c] 3))
  have KL := Lib.hid (block_at1 w (.cells #[.int .i64 x.op, .int .i64 x.dst, .int .i64 x.a, .int .i64 x.b, .int .i64 x.c, .int .u64 x.imm] 48) (.cells #[.int .i64 x.a, .int .i64 x.b, .int .i64 x.c] 3))
  have KX := Lib.hid (block_alloc (heap_alloc_new w (.cells #[.int .i64 x.op, .int .i64 x.dst, .int .i64 x.a, .int .i64 x.b, .int .i64 x.c, .int .u64 x.imm] 48)) (.cells #[.int .i64 x.a, .int .i64 x.b, .int .i64 x.c] 3))
  unfold inVal
  go_enter Tryz.func64, Tryz.ntmps64
  obtain ⟨x0, x1, x2, x3, x4, x5⟩ := in_block KX.out
  go_wp2_with fail
  refine (ref48_Sources x.op _).mono ?_
  rintro e w1 ⟨rfl, d1⟩
  have hs := srcN_le x.op
  have HLN : Hid ((usesI x).length = (srcN x.op).toNat) := by
    show _ = _
    unfold usesI
    rw [List.length_take]
    simp
    omega
  have HB := Lib.hid (BW.out.trans (d1.below _))
  have HR : Hid (Rd (Kd.int .i64) (fun b => w.heap.size ≤ b) w1 (some ⟨w.heap.size + 1, 0, none⟩) 3 (usesI x)) := by
    have h3 : Rd (Kd.int .i64) (fun b => w.heap.size ≤ b) w1 (some ⟨w.heap.size + 1, 0, none⟩) 3 [x.a, x.b, x.c] := rd_block (d1.heap KL.out) (elems_vals [x.a, x.b, x.c]) (by show w.heap.size ≤ w.heap.size + 1; omega) 3 (by simp) (by simp)
    exact h3.take _ (by simp; omega)
  obtain ⟨m, hm⟩ : ∃ m : Nat, (m : Int) = max 0 (srcN x.op) := ⟨(srcN x.op).toNat, by omega⟩
  have HM : Hid ((srcN x.op).toNat = m) := by show _ = _; omega
  have hm3 : m ≤ 3 := by omega
  have hmax : max 0 (srcN x.op) = (m : Int) := hm.symm
  clear d1 hm BW KL KX x0 x1 x2 x3 x4 x5
  go_wp2_with fail
  all_goals go_ret
  all_goals refine ⟨some ⟨w.heap.size + 1, 0, none⟩, 3, ?_, HR.out, HB.out⟩
  all_goals rw [HLN.out, HM.out]
  all_goals first | rfl | (have hz : m = 0 := (by omega); subst hz; rfl)
end Go.Proofs.Sat
/- The walk of ref48's ins. -/
namespace Go.Proofs.Sat
open Go Go.RowKit
/-- The registers that an instruction names. -/
def allI (x : In) : List Int := (if defsI x = true then [x.dst] else []) ++ usesI x
theorem allI_len (x : In) : (allI x).length ≤ 4 := by
  unfold allI usesI
  rw [List.length_append, List.length_take]
  split <;> simp <;> omega
theorem insErr_reg {width regs : Int} {x : In} (hk : knownI x.op = true) (h : (allI x).all (fun r => inR r regs) = false) : insErr width regs x = 18 := by
  unfold insErr
  rw [if_neg (by simp [hk])]
  by_cases h2 : defsI x = true ∧ inR x.dst regs = false
  · rw [if_pos h2]
  rw [if_neg h2, if_pos]
  unfold allI at h
  rw [List.all_append] at h
  cases hu : (usesI x).all (fun r => inR r regs)
  · rfl
  · rw [hu, Bool.and_true] at h
    exfalso
    by_cases hd : defsI x = true
    · rw [if_pos hd] at h
      exact h2 ⟨hd, by simpa using h⟩
    · rw [if_neg hd] at h
      simp at h
/-- Is a field set that the operation does not use? -/
def formI (x : In) : Prop := (x.op ≠ 1 ∧ x.imm ≠ 0) ∨ (x.op = 0 ∧ x.dst ≠ 0) ∨ (srcN x.op < 1 ∧ x.a ≠ 0) ∨ (srcN x.op < 2 ∧ x.b ≠ 0) ∨ (srcN x.op < 3 ∧ x.c ≠ 0)
theorem formI_iff {x : In} (hk : knownI x.op = true) : formI x ↔ ((x.op ≠ 1 ∧ x.imm ≠ 0) ∨ (restI x).all (fun r => r == 0) = false) := by
  have hnn := srcN_known hk
  have hle := srcN_le x.op
  obtain ⟨sn, hsn⟩ := Int.eq_ofNat_of_zero_le hnn
  have hsn3 : sn ≤ 3 := by omega
  have hz := restI_zero (x := x) hsn hsn3
  have hz' : (restI x).all (fun r => r == 0) = false ↔ ¬ ((∀ j, sn ≤ j → j < 3 → [x.a, x.b, x.c].getD j 0 = 0) ∧ (x.op = 0 → x.dst = 0)) := by rw [← hz, Bool.not_eq_true]
  rw [hz']
  unfold formI
  rw [hsn]
  constructor
  · rintro (h | h | ⟨h, h'⟩ | ⟨h, h'⟩ | ⟨h, h'⟩)
    · exact .inl h
    · exact .inr fun hh => h.2 (hh.2 h.1)
    · exact .inr fun hh => h' (hh.1 0 (by omega) (by omega))
    · exact .inr fun hh => h' (hh.1 1 (by omega) (by omega))
    · exact .inr fun hh => h' (hh.1 2 (by omega) (by omega))
  · rintro (h | h)
    · exact .inl h
    · apply Decidable.byContradiction
      intro hn
      refine h ⟨fun j h1 h2 => ?_, fun h0 => ?_⟩
      · rcases (show j = 0 ∨ j = 1 ∨ j = 2 by omega) with rfl | rfl | rfl
        · exact Decidable.byContradiction fun hh => hn (.inr (.inr (.inl ⟨by omega, hh⟩)))
        · exact Decidable.byContradiction fun hh => hn (.inr (.inr (.inr (.inl ⟨by omega, hh⟩))))
        · exact Decidable.byContradiction fun hh => hn (.inr (.inr (.inr (.inr ⟨by omega, hh⟩))))
      · exact Decidable.byContradiction fun hh => hn (.inr (.inl ⟨h0, hh⟩))
theorem allI_split {regs : Int} {x : In} (h : (allI x).all (fun r => inR r regs) = true) : ¬ (defsI x = true ∧ inR x.dst regs = false) ∧ (usesI x).all (fun r => inR r regs) = true := by
  unfold allI at h
  rw [List.all_append, Bool.and_eq_true] at h
  refine ⟨?_, h.2⟩
  rintro ⟨hd, hi⟩
  have := h.1
  rw [if_pos hd] at this
  simp [hi] at this
theorem insErr_range {width regs : Int} {x : In} (hk : knownI x.op = true) (h : (allI x).all (fun r => inR r regs) = true) (hr : x.op = 1 ∧ maskI width < x.imm) : insErr width regs x = 2 := by
  obtain ⟨h1, h2⟩ := allI_split h
  unfold insErr
  rw [if_neg (by simp [hk]), if_neg h1, if_neg (by simp [h2]), if_pos hr]
instance (x : In) : Decidable (formI x) := by unfold formI; infer_instance
theorem insErr_form {width regs : Int} {x : In} (hk : knownI x.op = true) (h : (allI x).all (fun r => inR r regs) = true) (hr : ¬ (x.op = 1 ∧ maskI width < x.imm)) : insErr width regs x = if formI x then 19 else 0 := by
  obtain ⟨h1, h2⟩ := allI_split h
  rw [insErr_late hk h1 h2 hr]
  by_cases hf : formI x
  · rw [if_pos hf, if_pos ((formI_iff hk).1 hf)]
  · rw [if_neg hf, if_neg (fun hh => hf ((formI_iff hk).2 hh))]
theorem cut_neq {n : Nat} {i : Int} (hn : n ≤ 64) (h0 : 0 ≤ i) : ((((i.toNat % 2 ^ n : Nat) : Int) != i) = true) ↔ maskI (n : Int) < i := by
  unfold maskI
  rw [Int.toNat_natCast, bne_iff_ne]
  obtain ⟨k, rfl⟩ := Int.eq_ofNat_of_zero_le h0
  rw [Int.toNat_natCast]
  have hp : 0 < 2 ^ n := Nat.two_pow_pos n
  have hc : ((2 ^ n : Nat) : Int) = (2 : Int) ^ n := by simp
  rw [← hc]
  generalize 2 ^ n = M at *
  constructor
  · intro h
    rcases Nat.lt_or_ge k M with h' | h'
    · rw [Nat.mod_eq_of_lt h'] at h
      exact absurd rfl h
    · omega
  · intro h hh
    have h1 := Nat.mod_lt k hp
    omega
theorem srcN_0 : srcN 0 = 0 := by decide
theorem srcN_1 : srcN 1 = 0 := by decide
theorem srcN_cases {op : Int} (hk : knownI op = true) : (op = 0 ∧ op ≠ 1 ∧ srcN op = 0) ∨ (op ≠ 0 ∧ op = 1 ∧ srcN op = 0) ∨ (op ≠ 0 ∧ op ≠ 1 ∧ srcN op = 1) ∨ (op ≠ 0 ∧ op ≠ 1 ∧ srcN op = 2) ∨ (op ≠ 0 ∧ op ≠ 1 ∧ srcN op = 3) := by
  have h := (decide_eq_true_iff (p := 0 ≤ op ∧ op ≤ 19)).1 hk
  unfold srcN
  rw [if_neg (by omega)]
  by_cases h1 : op ≤ 1
  · rw [if_pos h1]; omega
  rw [if_neg h1]
  by_cases h4 : op ≤ 4
  · rw [if_pos h4]; omega
  rw [if_neg h4]
  by_cases h5 : op = 19
  · rw [if_pos h5]; omega
  · rw [if_neg h5]; omega
set_option maxRecDepth 20000 in
set_option maxHeartbeats 4000000 in
theorem ref48_ins (c : Cd) (p : CdAt) (x : In) (w : World) (hw1 : 1 ≤ c.width) (hw2 : c.width ≤ 64) (hi : 0 ≤ x.imm ∧ x.imm < 18446744073709551616) : Calls Tryz.prog 34 #[cdVal c p, inVal x] w fun e w' => e = .returned (.int .i64 (insErr c.width c.regs x)) ∧ Below w.heap.size w w' := by
  have BW := Lib.hid (below_alloc (below_alloc (Below.refl w.heap.size w) (.cells #[.int .i64 c.width, .int .i64 c.regs, .slice p.ia c.ins.length p.ic, .slice p.oa c.out.length p.oc] 25)) (.cells #[.int .i64 x.op, .int .i64 x.dst, .int .i64 x.a, .int .i64 x.b, .int .i64 x.c, .int .u64 x.imm] 48))
  have KC := Lib.hid (block_alloc (heap_alloc_new w (.cells #[.int .i64 c.width, .int .i64 c.regs, .slice p.ia c.ins.length p.ic, .slice p.oa c.out.length p.oc] 25)) (.cells #[.int .i64 x.op, .int .i64 x.dst, .int .i64 x.a, .int .i64 x.b, .int .i64 x.c, .int .u64 x.imm] 48))
  have KX := Lib.hid (block_at1 w (.cells #[.int .i64 c.width, .int .i64 c.regs, .slice p.ia c.ins.length p.ic, .slice p.oa c.out.length p.oc] 25) (.cells #[.int .i64 x.op, .int .i64 x.dst, .int .i64 x.a, .int .i64 x.b, .int .i64 x.c, .int .u64 x.imm] 48))
  unfold cdVal inVal
  go_enter Tryz.func34, Tryz.ntmps34
  obtain ⟨x0, x1, x2, x3, x4, x5⟩ := in_block KX.out
  go_wp2_with fail
  refine (ref48_Known x.op _).mono ?_
  rintro e w1 ⟨rfl, d1⟩
  have B1 := Lib.hid (BW.out.trans (d1.below _))
  have KC1 := Lib.hid (d1.heap KC.out)
  have KX1 := Lib.hid (d1.heap KX.out)
  clear d1 BW KC KX x0 x1 x2 x3 x4 x5
  obtain ⟨x0, x1, x2, x3, x4, x5⟩ := in_block KX1.out
  cases hk : knownI x.op
  · have HE : Hid (insErr c.width c.regs x = 4) := by show _ = _; unfold insErr; rw [if_pos hk]
    clear hk
    go_wp2_with fail
    go_ret
    exact ⟨ret_int HE.out.symm, B1.out⟩
  have HK := Lib.hid hk
  clear hk
  go_wp2_with fail
  refine (ref48_Uses x _).mono ?_
  rintro e w2 ⟨aU, cU, rfl, hU, b2⟩
  have B2 := Lib.hid (below_both B1.out b2)
  have KC2 := Lib.hid (block_below b2 KC1.out)
  have KX2 := Lib.hid (block_below b2 KX1.out)
  have HU := Lib.hid hU
  clear b2 hU x0 x1 x2 x3 x4 x5
  obtain ⟨x0, x1, x2, x3, x4, x5⟩ := in_block KX2.out
  go_wp2_with fail
  refine (ref48_Def x _).mono ?_
  rintro e w3 ⟨rfl, b3⟩
  have B3 := Lib.hid (below_both B2.out b3)
  have KC3 := Lib.hid (block_below b3 KC2.out)
  have KX3 := Lib.hid (block_below b3 KX2.out)
  have HU3 := Lib.hid (HU.out.frame (Same.below b3))
  have hlu : (usesI x).length ≤ 3 := by unfold usesI; rw [List.length_take]; simp; omega
  have z3 := B3.out.size
  clear b3 x0 x1 x2 x3 x4 x5 HU
  obtain ⟨x0, x1, x2, x3, x4, x5⟩ := in_block KX3.out
  have HDD : Hid (defsI x = true → defD x = x.dst) := fun h => by unfold defD; rw [if_pos h]
  have HAL : Hid (allI x = (if defsI x = true then [x.dst] else []) ++ usesI x) := rfl
  have HD0 : Hid (defsI x = false ↔ x.op = 0) := by
    show _ ↔ _
    have := (decide_eq_true_iff (p := 0 ≤ x.op ∧ x.op ≤ 19)).1 HK.out
    unfold defsI
    rw [decide_eq_false_iff_not]
    omega
  obtain ⟨dok, hdok⟩ : ∃ b, b = defsI x := ⟨_, rfl⟩
  rw [← hdok]
  have HDK := Lib.hid hdok
  clear hdok
  go_upto_if 21 with fail
  go_cut [5] (fun s5 wx => ∃ a c, s5 = .slice a (allI x).length c ∧ Hid (Rd (Kd.int .i64) (fun _ => True) wx a c (allI x)) ∧ Hid (Below w3.heap.size w3 wx))
  case first =>
    cases dok
    · have HAE : Hid (allI x = usesI x) := by show _ = _; rw [HAL.out, if_neg (by rw [← HDK.out]; simp)]; rfl
      go_wp2_with fail
      go_meet
      case rel => exact ⟨aU, cU, by rw [HAE.out], by rw [HAE.out]; exact HU3.out.mono fun _ _ _ => trivial, Below.refl _ _⟩
    · have HAE : Hid (allI x = [defD x] ++ usesI x) := by show _ = _; rw [HAL.out, if_pos HDK.out.symm, HDD.out HDK.out.symm]
      have OW : Hid (Own (Kd.int .i64) 3 NoS (w3.alloc (.cells #[.int .i64 (defD x)] 3)) w3.heap.size (.slice (some ⟨w3.heap.size, 0, none⟩) 1 1) [defD x]) := Own.of_block (enc := fun x => .int .i64 x) (xs := [defD x]) NoS (Nat.le_refl _) (heap_alloc_new w3 _) (by simp) (by simp [maxLen]) rfl rfl
      have HU4 : Hid (Rd (Kd.int .i64) (fun b => w1.heap.size ≤ b) (w3.alloc (.cells #[.int .i64 (defD x)] 3)) aU cU (usesI x)) := HU3.out.frame (Same.alloc _ _ _)
      have BA := Lib.hid (below_alloc (Below.refl w3.heap.size w3) (.cells #[.int .i64 (defD x)] 3))
      go_wp2_with (first
        | (at_builtin; refine wpList_append_ev _ rfl _ _ 23 rfl _ _ rfl rfl _ (run_app_rd _ infoInt rfl _ OW.out aU cU (usesI x).length (usesI x) rfl HU4.out val_any (by simp; omega) (by simp; omega) (by exact BA.out.size)) ?_; rintro n1 w4 ⟨ow1, g1, v1⟩; have B4 := Lib.hid (BA.out.grown g1 BA.out.size (fun k hk => (OW.out.lt k hk).1)); have O4 := Lib.hid ow1; obtain ⟨a4, c4, rfl⟩ := ow1.form; clear ow1 g1 v1)
        | fail)
      go_meet
      case rel => exact ⟨a4, c4, by rw [HAE.out]; simp, by rw [HAE.out]; exact O4.out.rd'.mono fun _ _ _ => trivial, B4.out⟩
  case rest =>
    obtain ⟨aA, cA, rfl, HA, B5⟩ := hcut
    have B5' := Lib.hid (below_both B3.out B5.out)
    have KC5 := Lib.hid (block_below B5.out KC3.out)
    have KX5 := Lib.hid (block_below B5.out KX3.out)
    have hal := allI_len x
    clear x0 x1 x2 x3 x4 x5
    obtain ⟨w5, hw5'⟩ : ∃ w5, w5 = wc := ⟨_, rfl⟩
    subst hw5'
    obtain ⟨na, hna⟩ : ∃ n, n = (allI x).length := ⟨_, rfl⟩
    rw [← hna] at hal
    rw [← hna]
    have HNA := Lib.hid hna
    clear hna
    go_wp2_with fail
    go_loopw [8] (fun i wr => ∃ k : Nat, k ≤ na ∧ i = .int .i64 k ∧ Hid (∀ j (hj : j < (allI x).length), j < k → inR (allI x)[j] c.regs = true) ∧ Hid (Drawn w5 wr)) (fun i _ => na - (intOf i).toNat)
    case atStart => exact ⟨0, by omega, rfl, fun j hj h => by omega, Drawn.refl _⟩
    case round =>
      obtain ⟨k, hk9, rfl, hv, HD⟩ := hrel
      obtain ⟨z0, z1⟩ := cd_block (HD.out.heap KC5.out)
      by_cases hlt : k < na
      · have HLT : Hid (k < (allI x).length) := by show _ < _; rw [← HNA.out]; exact hlt
        obtain ⟨b, o, rfl, -, -, hc⟩ := (HA.out.frame (Same.drawn _ HD.out)).vals (Nat.lt_of_le_of_lt (Nat.zero_le _) HLT.out) 0
        have d5 := hc k HLT.out
        rw [getD_at _ HLT.out] at d5
        clear hc
        have HB5 := Lib.hid (fun (hq : inR ((allI x)[k]'HLT.out) c.regs = false) => show insErr c.width c.regs x = 18 from insErr_reg HK.out (List.all_eq_false.2 ⟨_, List.getElem_mem HLT.out, by simp [hq]⟩))
        have HV5 := Lib.hid (fun (hq : inR ((allI x)[k]'HLT.out) c.regs = true) j (hj : j < (allI x).length) (hjk : j < k + 1) => show inR (allI x)[j] c.regs = true from by
          rcases Nat.lt_or_ge j k with h' | h'
          · exact hv.out j hj h'
          · obtain rfl : j = k := by omega
            exact hq)
        generalize (allI x)[k]'HLT.out = r at *
        go_wp2_with fail
        by_cases h0 : 0 ≤ r
        · have t0 : decide (r < 0) = false := decide_eq_false (by omega)
          by_cases h1 : r < c.regs
          · have HQ := Lib.hid (HV5.out (by unfold inR; exact decide_eq_true ⟨h0, h1⟩))
            have t1 : decide (c.regs ≤ r) = false := decide_eq_false (by omega)
            clear h0 h1
            go_quiet (fail)
            have D6 := Lib.hid (HD.out.trans (Drawn.of wr nq))
            go_wp2
            go_roundw
            case rel => exact ⟨k + 1, by omega, by go_num, HQ.out, D6.out⟩
            case measure => simp [intOf]; omega
          · have HE := Lib.hid (HB5.out (by unfold inR; exact decide_eq_false (by omega)))
            have t1 : decide (c.regs ≤ r) = true := decide_eq_true (by omega)
            clear h0 h1
            go_quiet (fail)
            have D6 := Lib.hid (HD.out.trans (Drawn.of wr nq))
            go_wp2
            go_ret
            exact ⟨ret_int HE.out.symm, B5'.out.trans (D6.out.below _)⟩
        · have HE := Lib.hid (HB5.out (by unfold inR; exact decide_eq_false (by omega)))
          have t0 : decide (r < 0) = true := decide_eq_true (by omega)
          clear h0
          go_quiet (fail)
          have D6 := Lib.hid (HD.out.trans (Drawn.of wr nq))
          go_wp2
          go_ret
          exact ⟨ret_int HE.out.symm, B5'.out.trans (D6.out.below _)⟩
      · have HALL : Hid ((allI x).all (fun r => inR r c.regs) = true) := by
          show _ = _
          rw [List.all_eq_true]
          intro y hy
          obtain ⟨j, hj, rfl⟩ := List.getElem_of_mem hy
          exact hv.out j hj (by have := HNA.out; omega)
        have B6 := Lib.hid (B5'.out.trans (HD.out.below _))
        have KC6 := Lib.hid (HD.out.heap KC5.out)
        have KX6 := Lib.hid (HD.out.heap KX5.out)
        obtain ⟨y0, y1, y2, y3, y4, y5⟩ := in_block KX6.out
        obtain ⟨nw, hnw⟩ := Int.eq_ofNat_of_zero_le (show 0 ≤ c.width by omega)
        have hnw1 : 1 ≤ nw := by omega
        have hnw2 : nw ≤ 64 := by omega
        have CN := cut_neq (n := nw) (i := x.imm) hnw2 hi.1
        rw [← hnw] at CN
        have HCN := Lib.hid CN
        have HNW := Lib.hid hnw
        have C1 := Lib.hid (fun W => ref01_Cut nw x.imm.toNat W hnw1 hnw2 (by omega))
        have HIM : Hid (((x.imm.toNat : Nat) : Int) = x.imm) := by show _ = _; omega
        have hC1 : Hid (∀ W, Calls Tryz.prog 66 #[.int .i64 c.width, .int .u64 x.imm] W fun e w' => e = .returned (.int .u64 ((x.imm.toNat % 2 ^ nw : Nat) : Int)) ∧ Drawn W w') := fun W => by
          have h := C1.out W
          rw [HIM.out, ← HNW.out] at h
          exact h
        clear C1 CN hnw
        obtain ⟨cv, hcv⟩ : ∃ v, v = ((x.imm.toNat % 2 ^ nw : Nat) : Int) := ⟨_, rfl⟩
        rw [← hcv] at HCN hC1
        clear hcv
        go_upto_region 12 with fail
        go_cut [58] (fun s wx => s = .bool (decide (x.op = 1 ∧ maskI c.width < x.imm)) ∧ Drawn wr wx)
        case first =>
          by_cases h1 : x.op = 1
          · have t0 : (x.op == 1) = true := by simpa using h1
            have HS : Hid (decide (x.op = 1 ∧ maskI c.width < x.imm) = (cv != x.imm)) := by
              show _ = _
              rw [Bool.eq_iff_iff, HCN.out, decide_eq_true_iff]
              exact ⟨fun h => h.2, fun h => ⟨h1, h⟩⟩
            clear h1
            go_wp2_with fail
            go_quiet ((go_at_call 66; exact Calls.quiet_of (hC1.out _)))
            go_wp2
            go_meet
            case rel => exact ⟨by rw [HS.out], Drawn.of _ _⟩
          · have t0 : (x.op == 1) = false := by simpa using h1
            have HS : Hid (decide (x.op = 1 ∧ maskI c.width < x.imm) = false) := decide_eq_false (fun h => h1 h.1)
            clear h1
            go_wp2_with fail
            go_quiet ((go_at_call 66; exact Calls.quiet_of (hC1.out _)))
            go_wp2
            go_meet
            case rel => exact ⟨by rw [HS.out], Drawn.of _ _⟩
        case rest =>
          obtain ⟨rfl, D7⟩ := hcut
          have B7 := Lib.hid (B6.out.trans (Drawn.below D7 _))
          have KX7 := Lib.hid (Drawn.heap D7 KX6.out)
          clear y0 y1 y2 y3 y4 y5 z0 z1 hC1 HCN D7
          obtain ⟨w7, hw7⟩ : ∃ w7, w7 = wc := ⟨_, rfl⟩
          subst hw7
          obtain ⟨y0, y1, y2, y3, y4, y5⟩ := in_block KX7.out
          by_cases hm : x.op = 1 ∧ maskI c.width < x.imm
          · have HE := Lib.hid (insErr_range HK.out HALL.out hm)
            rw [decide_eq_true hm]
            clear hm
            go_wp2_with fail
            go_ret
            exact ⟨ret_int HE.out.symm, B7.out⟩
          have HE := Lib.hid (insErr_form HK.out HALL.out hm)
          rw [decide_eq_false hm]
          clear hm
          go_wp2_with fail
          refine (ref48_Sources x.op _).mono ?_
          rintro e w8 ⟨rfl, d8⟩
          have B8 := Lib.hid (B7.out.trans (d8.below _))
          have KX8 := Lib.hid (d8.heap KX7.out)
          clear d8 y0 y1 y2 y3 y4 y5
          obtain ⟨y0, y1, y2, y3, y4, y5⟩ := in_block KX8.out
          have hsk := srcN_cases HK.out
          have HDV := Lib.hid HDK.out
          rcases hsk with ⟨h0, h1, hs⟩ | ⟨h0, h1, hs⟩ | ⟨h0, h1, hs⟩ | ⟨h0, h1, hs⟩ | ⟨h0, h1, hs⟩
          · have q1 : decide (srcN x.op < 1) = true := by rw [hs]; rfl
            have q2 : decide (srcN x.op < 2) = true := by rw [hs]; rfl
            have q3 : decide (srcN x.op < 3) = true := by rw [hs]; rfl
            have q0 : (x.op != 1) = true := by simpa using h1
            obtain rfl : dok = false := by rw [HDV.out]; exact HD0.out.2 h0
            by_cases h_imm : x.imm = 0
            · have t_imm : (x.imm != 0) = false := by simpa using h_imm
              by_cases h_dst : x.dst = 0
              · have t_dst : (x.dst != 0) = false := by simpa using h_dst
                by_cases h_a : x.a = 0
                · have t_a : (x.a != 0) = false := by simpa using h_a
                  by_cases h_b : x.b = 0
                  · have t_b : (x.b != 0) = false := by simpa using h_b
                    by_cases h_c : x.c = 0
                    · have t_c : (x.c != 0) = false := by simpa using h_c
                      have HE9 : Hid (insErr c.width c.regs x = 0) := by show _ = _; rw [HE.out]; unfold formI; simp [srcN_0, srcN_1, hs, h0, h1, h_imm, h_dst, h_a, h_b, h_c]
                      clear hs h0 h1 h_imm h_dst h_a h_b h_c
                      go_wp2_with fail
                      go_ret
                      exact ⟨ret_int HE9.out.symm, B8.out⟩
                    · have t_c : (x.c != 0) = true := by simpa using h_c
                      have HE9 : Hid (insErr c.width c.regs x = 19) := by show _ = _; rw [HE.out]; unfold formI; simp [srcN_0, srcN_1, hs, h0, h1, h_imm, h_dst, h_a, h_b, h_c]
                      clear hs h0 h1 h_imm h_dst h_a h_b h_c
                      go_wp2_with fail
                      go_ret
                      exact ⟨ret_int HE9.out.symm, B8.out⟩
                  · have t_b : (x.b != 0) = true := by simpa using h_b
                    have HE9 : Hid (insErr c.width c.regs x = 19) := by show _ = _; rw [HE.out]; unfold formI; simp [srcN_0, srcN_1, hs, h0, h1, h_imm, h_dst, h_a, h_b]
                    clear hs h0 h1 h_imm h_dst h_a h_b
                    go_wp2_with fail
                    go_ret
                    exact ⟨ret_int HE9.out.symm, B8.out⟩
                · have t_a : (x.a != 0) = true := by simpa using h_a
                  have HE9 : Hid (insErr c.width c.regs x = 19) := by show _ = _; rw [HE.out]; unfold formI; simp [srcN_0, srcN_1, hs, h0, h1, h_imm, h_dst, h_a]
                  clear hs h0 h1 h_imm h_dst h_a
                  go_wp2_with fail
                  go_ret
                  exact ⟨ret_int HE9.out.symm, B8.out⟩
              · have t_dst : (x.dst != 0) = true := by simpa using h_dst
                have HE9 : Hid (insErr c.width c.regs x = 19) := by show _ = _; rw [HE.out]; unfold formI; simp [srcN_0, srcN_1, hs, h0, h1, h_imm, h_dst]
                clear hs h0 h1 h_imm h_dst
                go_wp2_with fail
                go_ret
                exact ⟨ret_int HE9.out.symm, B8.out⟩
            · have t_imm : (x.imm != 0) = true := by simpa using h_imm
              have HE9 : Hid (insErr c.width c.regs x = 19) := by show _ = _; rw [HE.out]; unfold formI; simp [srcN_0, srcN_1, hs, h0, h1, h_imm]
              clear hs h0 h1 h_imm
              go_wp2_with fail
              go_ret
              exact ⟨ret_int HE9.out.symm, B8.out⟩
          · have q1 : decide (srcN x.op < 1) = true := by rw [hs]; rfl
            have q2 : decide (srcN x.op < 2) = true := by rw [hs]; rfl
            have q3 : decide (srcN x.op < 3) = true := by rw [hs]; rfl
            have q0 : (x.op != 1) = false := by simpa using h1
            obtain rfl : dok = true := by rw [HDV.out]; exact Bool.not_eq_false _ ▸ fun h => h0 (HD0.out.1 h)
            by_cases h_a : x.a = 0
            · have t_a : (x.a != 0) = false := by simpa using h_a
              by_cases h_b : x.b = 0
              · have t_b : (x.b != 0) = false := by simpa using h_b
                by_cases h_c : x.c = 0
                · have t_c : (x.c != 0) = false := by simpa using h_c
                  have HE9 : Hid (insErr c.width c.regs x = 0) := by show _ = _; rw [HE.out]; unfold formI; simp [srcN_0, srcN_1, hs, h0, h1, h_a, h_b, h_c]
                  clear hs h0 h1 h_a h_b h_c
                  go_wp2_with fail
                  go_ret
                  exact ⟨ret_int HE9.out.symm, B8.out⟩
                · have t_c : (x.c != 0) = true := by simpa using h_c
                  have HE9 : Hid (insErr c.width c.regs x = 19) := by show _ = _; rw [HE.out]; unfold formI; simp [srcN_0, srcN_1, hs, h0, h1, h_a, h_b, h_c]
                  clear hs h0 h1 h_a h_b h_c
                  go_wp2_with fail
                  go_ret
                  exact ⟨ret_int HE9.out.symm, B8.out⟩
              · have t_b : (x.b != 0) = true := by simpa using h_b
                have HE9 : Hid (insErr c.width c.regs x = 19) := by show _ = _; rw [HE.out]; unfold formI; simp [srcN_0, srcN_1, hs, h0, h1, h_a, h_b]
                clear hs h0 h1 h_a h_b
                go_wp2_with fail
                go_ret
                exact ⟨ret_int HE9.out.symm, B8.out⟩
            · have t_a : (x.a != 0) = true := by simpa using h_a
              have HE9 : Hid (insErr c.width c.regs x = 19) := by show _ = _; rw [HE.out]; unfold formI; simp [srcN_0, srcN_1, hs, h0, h1, h_a]
              clear hs h0 h1 h_a
              go_wp2_with fail
              go_ret
              exact ⟨ret_int HE9.out.symm, B8.out⟩
          · have q1 : decide (srcN x.op < 1) = false := by rw [hs]; rfl
            have q2 : decide (srcN x.op < 2) = true := by rw [hs]; rfl
            have q3 : decide (srcN x.op < 3) = true := by rw [hs]; rfl
            have q0 : (x.op != 1) = true := by simpa using h1
            obtain rfl : dok = true := by rw [HDV.out]; exact Bool.not_eq_false _ ▸ fun h => h0 (HD0.out.1 h)
            by_cases h_imm : x.imm = 0
            · have t_imm : (x.imm != 0) = false := by simpa using h_imm
              by_cases h_b : x.b = 0
              · have t_b : (x.b != 0) = false := by simpa using h_b
                by_cases h_c : x.c = 0
                · have t_c : (x.c != 0) = false := by simpa using h_c
                  have HE9 : Hid (insErr c.width c.regs x = 0) := by show _ = _; rw [HE.out]; unfold formI; simp [srcN_0, srcN_1, hs, h0, h1, h_imm, h_b, h_c]
                  clear hs h0 h1 h_imm h_b h_c
                  go_wp2_with fail
                  go_ret
                  exact ⟨ret_int HE9.out.symm, B8.out⟩
                · have t_c : (x.c != 0) = true := by simpa using h_c
                  have HE9 : Hid (insErr c.width c.regs x = 19) := by show _ = _; rw [HE.out]; unfold formI; simp [srcN_0, srcN_1, hs, h0, h1, h_imm, h_b, h_c]
                  clear hs h0 h1 h_imm h_b h_c
                  go_wp2_with fail
                  go_ret
                  exact ⟨ret_int HE9.out.symm, B8.out⟩
              · have t_b : (x.b != 0) = true := by simpa using h_b
                have HE9 : Hid (insErr c.width c.regs x = 19) := by show _ = _; rw [HE.out]; unfold formI; simp [srcN_0, srcN_1, hs, h0, h1, h_imm, h_b]
                clear hs h0 h1 h_imm h_b
                go_wp2_with fail
                go_ret
                exact ⟨ret_int HE9.out.symm, B8.out⟩
            · have t_imm : (x.imm != 0) = true := by simpa using h_imm
              have HE9 : Hid (insErr c.width c.regs x = 19) := by show _ = _; rw [HE.out]; unfold formI; simp [srcN_0, srcN_1, hs, h0, h1, h_imm]
              clear hs h0 h1 h_imm
              go_wp2_with fail
              go_ret
              exact ⟨ret_int HE9.out.symm, B8.out⟩
          · have q1 : decide (srcN x.op < 1) = false := by rw [hs]; rfl
            have q2 : decide (srcN x.op < 2) = false := by rw [hs]; rfl
            have q3 : decide (srcN x.op < 3) = true := by rw [hs]; rfl
            have q0 : (x.op != 1) = true := by simpa using h1
            obtain rfl : dok = true := by rw [HDV.out]; exact Bool.not_eq_false _ ▸ fun h => h0 (HD0.out.1 h)
            by_cases h_imm : x.imm = 0
            · have t_imm : (x.imm != 0) = false := by simpa using h_imm
              by_cases h_c : x.c = 0
              · have t_c : (x.c != 0) = false := by simpa using h_c
                have HE9 : Hid (insErr c.width c.regs x = 0) := by show _ = _; rw [HE.out]; unfold formI; simp [srcN_0, srcN_1, hs, h0, h1, h_imm, h_c]
                clear hs h0 h1 h_imm h_c
                go_wp2_with fail
                go_ret
                exact ⟨ret_int HE9.out.symm, B8.out⟩
              · have t_c : (x.c != 0) = true := by simpa using h_c
                have HE9 : Hid (insErr c.width c.regs x = 19) := by show _ = _; rw [HE.out]; unfold formI; simp [srcN_0, srcN_1, hs, h0, h1, h_imm, h_c]
                clear hs h0 h1 h_imm h_c
                go_wp2_with fail
                go_ret
                exact ⟨ret_int HE9.out.symm, B8.out⟩
            · have t_imm : (x.imm != 0) = true := by simpa using h_imm
              have HE9 : Hid (insErr c.width c.regs x = 19) := by show _ = _; rw [HE.out]; unfold formI; simp [srcN_0, srcN_1, hs, h0, h1, h_imm]
              clear hs h0 h1 h_imm
              go_wp2_with fail
              go_ret
              exact ⟨ret_int HE9.out.symm, B8.out⟩
          · have q1 : decide (srcN x.op < 1) = false := by rw [hs]; rfl
            have q2 : decide (srcN x.op < 2) = false := by rw [hs]; rfl
            have q3 : decide (srcN x.op < 3) = false := by rw [hs]; rfl
            have q0 : (x.op != 1) = true := by simpa using h1
            obtain rfl : dok = true := by rw [HDV.out]; exact Bool.not_eq_false _ ▸ fun h => h0 (HD0.out.1 h)
            by_cases h_imm : x.imm = 0
            · have t_imm : (x.imm != 0) = false := by simpa using h_imm
              have HE9 : Hid (insErr c.width c.regs x = 0) := by show _ = _; rw [HE.out]; unfold formI; simp [srcN_0, srcN_1, hs, h0, h1, h_imm]
              clear hs h0 h1 h_imm
              go_wp2_with fail
              go_ret
              exact ⟨ret_int HE9.out.symm, B8.out⟩
            · have t_imm : (x.imm != 0) = true := by simpa using h_imm
              have HE9 : Hid (insErr c.width c.regs x = 19) := by show _ = _; rw [HE.out]; unfold formI; simp [srcN_0, srcN_1, hs, h0, h1, h_imm]
              clear hs h0 h1 h_imm
              go_wp2_with fail
              go_ret
              exact ⟨ret_int HE9.out.symm, B8.out⟩
end Go.Proofs.Sat
/- The walk of the reference's Check of ch. 48. -/
namespace Go.Proofs.Sat
open Go Go.RowKit
set_option maxRecDepth 20000 in
set_option maxHeartbeats 2000000 in
theorem ref48_Check (S : Nat → Prop) (c : Cd) (p : CdAt) (w : World) (h : CdRd S w c p) (himm : ∀ x ∈ c.ins, 0 ≤ x.imm ∧ x.imm < 18446744073709551616) : Calls Tryz.prog 11 #[cdVal c p] w fun e w' => e = .returned (.tuple #[.int .i64 (cdIx c), .int .i64 (cdErr c)]) ∧ Below w.heap.size w w' := by
  obtain ⟨ia, ic, oa, oc⟩ := p
  have BW := Lib.hid (below_alloc (Below.refl w.heap.size w) (.cells #[.int .i64 c.width, .int .i64 c.regs, .slice ia c.ins.length ic, .slice oa c.out.length oc] 25))
  have KC := Lib.hid (heap_alloc_new w (.cells #[.int .i64 c.width, .int .i64 c.regs, .slice ia c.ins.length ic, .slice oa c.out.length oc] 25))
  have HI : Hid (Rd kIn S w ia ic c.ins) := h.ins
  have HO : Hid (Rd (Kd.int .i64) S w oa oc c.out) := h.out
  have hil := h.ins.le
  have hol := h.out.le
  unfold cdVal
  go_enter Tryz.func11, Tryz.ntmps11
  by_cases hw : 1 ≤ c.width ∧ c.width ≤ 64
  case neg =>
    have HE : Hid (cdErr c = 3 ∧ cdIx c = -1) := by show _ ∧ _; unfold cdErr cdIx; rw [if_pos hw, if_pos hw]; exact ⟨rfl, rfl⟩
    by_cases h1 : c.width < 1
    · go_wp2
      go_ret2
      exact ⟨ret_two HE.out.2.symm HE.out.1.symm, BW.out⟩
    · have h2 : 64 < c.width := by omega
      go_wp2
      go_ret2
      exact ⟨ret_two HE.out.2.symm HE.out.1.symm, BW.out⟩
  by_cases hr : 1 ≤ c.regs ∧ c.regs ≤ 8
  case neg =>
    have HE : Hid (cdErr c = 18 ∧ cdIx c = -1) := by show _ ∧ _; unfold cdErr cdIx; rw [if_neg (not_not_intro hw), if_neg (not_not_intro hw), if_pos hr, if_pos hr]; exact ⟨rfl, rfl⟩
    obtain ⟨hw1, hw2⟩ := hw
    by_cases h1 : c.regs < 1
    · go_wp2
      go_ret2
      exact ⟨ret_two HE.out.2.symm HE.out.1.symm, BW.out⟩
    · have h2 : 8 < c.regs := by omega
      go_wp2
      go_ret2
      exact ⟨ret_two HE.out.2.symm HE.out.1.symm, BW.out⟩
  by_cases hl : 256 < c.ins.length
  · have HE : Hid (cdErr c = 7 ∧ cdIx c = -1) := by show _ ∧ _; unfold cdErr cdIx; rw [if_neg (not_not_intro hw), if_neg (not_not_intro hw), if_neg (not_not_intro hr), if_neg (not_not_intro hr), if_pos hl, if_pos hl]; exact ⟨rfl, rfl⟩
    obtain ⟨hw1, hw2⟩ := hw
    obtain ⟨hr1, hr2⟩ := hr
    go_wp2
    go_ret2
    exact ⟨ret_two HE.out.2.symm HE.out.1.symm, BW.out⟩
  have HE0 : Hid (cdErr c = (if insErrs c.width c.regs c.ins ≠ 0 then insErrs c.width c.regs c.ins else if c.out.all (fun r => inR r c.regs) = false then 18 else if ¬ c.out.Nodup then 9 else 0)
      ∧ cdIx c = (if insErrs c.width c.regs c.ins ≠ 0 then ((insIx c.width c.regs c.ins : Nat) : Int) else if c.out.all (fun r => inR r c.regs) = false then -1 else if ¬ c.out.Nodup then -1 else 0)) := by
    show _ ∧ _
    unfold cdErr cdIx
    rw [if_neg (not_not_intro hw), if_neg (not_not_intro hw), if_neg (not_not_intro hr), if_neg (not_not_intro hr), if_neg hl, if_neg hl]
    exact ⟨rfl, rfl⟩
  obtain ⟨hw1, hw2⟩ := hw
  obtain ⟨hr1, hr2⟩ := hr
  go_wp2
  go_loopw [4] (fun i wr => ∃ k : Nat, k ≤ c.ins.length ∧ i = .int .i64 k ∧ Hid (∀ j (hj : j < c.ins.length), j < k → insErr c.width c.regs c.ins[j] = 0) ∧ Hid (Below w.heap.size w wr) ∧ Hid (wr.heap[w.heap.size]? = some (.cells #[.int .i64 c.width, .int .i64 c.regs, .slice ia c.ins.length ic, .slice oa c.out.length oc] 25 (0, 0)))) (fun i _ => c.ins.length - (intOf i).toNat)
  case atStart => exact ⟨0, by omega, rfl, fun j hj h => by omega, BW.out, KC.out⟩
  case round =>
    obtain ⟨k, hk9, rfl, hv, HB, KC1⟩ := hrel
    obtain ⟨z0, z1, z2, z3⟩ := cd_block4 KC1.out
    by_cases hlt : k < c.ins.length
    · obtain ⟨b, o, rfl, -, hbw, hat⟩ := in_elem (HI.out.frame (Same.below HB.out)) hlt
      have HAT := Lib.hid hat
      obtain ⟨c0, c1, c2, c3, c4, c5⟩ := hat
      have HB5 := Lib.hid (fun (hq : insErr c.width c.regs c.ins[k] ≠ 0) => show cdErr c = insErr c.width c.regs c.ins[k] ∧ cdIx c = (k : Int) from by
        have h1 := insErrs_at hlt hv.out hq
        have h2 := insIx_at hlt hv.out hq
        rw [HE0.out.1, HE0.out.2, h1, h2, if_pos hq, if_pos hq]
        exact ⟨rfl, rfl⟩)
      have HV5 := Lib.hid (fun (hq : insErr c.width c.regs c.ins[k] = 0) j (hj : j < c.ins.length) (hjk : j < k + 1) => show insErr c.width c.regs c.ins[j] = 0 from by
        rcases Nat.lt_or_ge j k with h' | h'
        · exact hv.out j hj h'
        · obtain rfl : j = k := by omega
          exact hq)
      have HIM : Hid (0 ≤ c.ins[k].imm ∧ c.ins[k].imm < 18446744073709551616) := himm _ (List.getElem_mem hlt)
      generalize c.ins[k] = x at *
      have CX := Lib.hid (fun W => ref48_ins c ⟨some ⟨b, o, none⟩, ic, oa, oc⟩ x W hw1 hw2 HIM.out)
      go_wp2_with fail
      go_region_held3 (fun w' => (w'.cell? ⟨w.heap.size, 0, none⟩ = some (.int .i64 c.width) ∧ w'.cell? ⟨w.heap.size, 1, none⟩ = some (.int .i64 c.regs) ∧ w'.cell? ⟨w.heap.size, 2, none⟩ = some (.slice (some ⟨b, o, none⟩) c.ins.length ic) ∧ w'.cell? ⟨w.heap.size, 3, none⟩ = some (.slice oa c.out.length oc)) ∧
        w'.cell? ⟨b, o + k * 6, none⟩ = some (.int .i64 x.op) ∧ w'.cell? ⟨b, o + k * 6 + 1, none⟩ = some (.int .i64 x.dst) ∧ w'.cell? ⟨b, o + k * 6 + 2, none⟩ = some (.int .i64 x.a) ∧ w'.cell? ⟨b, o + k * 6 + 3, none⟩ = some (.int .i64 x.b) ∧ w'.cell? ⟨b, o + k * 6 + 4, none⟩ = some (.int .i64 x.c) ∧ w'.cell? ⟨b, o + k * 6 + 5, none⟩ = some (.int .u64 x.imm))
        (first | exact ⟨⟨z0, z1, z2, z3⟩, c0, c1, c2, c3, c4, c5⟩ | exact ⟨cd_block4 KC9.out, d0, d1, d2, d3, d4, d5⟩)
        (first
        | (go_at_call 34; refine (CX.out _).mono ?_; rintro e w9 ⟨rfl, b9⟩; have B9 := Lib.hid (below_both HB.out (below_both (below_drewN (Below.refl _ wr) 1) b9)); have KC9 := Lib.hid (block_below (below_both (below_drewN (Below.refl _ wr) 1) b9) KC1.out); have hat9 := HAT.out.frame (w' := w9) (by have := b9.block b hbw; exact this); obtain ⟨d0, d1, d2, d3, d4, d5⟩ := hat9)
        | fail)
      clear c0 c1 c2 c3 c4 c5 z0 z1 z2 z3
      by_cases hq : insErr c.width c.regs x = 0
      · have t0 : (insErr c.width c.regs x != 0) = false := by simpa using hq
        have HV6 := Lib.hid (HV5.out hq)
        clear hq
        generalize insErr c.width c.regs x = er at *
        go_wp2_with fail
        go_roundw
        case rel => exact ⟨k + 1, by omega, by go_num, HV6.out, B9.out, KC9.out⟩
        case measure => simp [intOf]; omega
      · have t0 : (insErr c.width c.regs x != 0) = true := by simpa using hq
        have HE := Lib.hid (HB5.out hq)
        clear hq
        go_wp2_with fail
        go_ret2
        exact ⟨ret_two HE.out.2.symm HE.out.1.symm, B9.out⟩
    · have HE1 : Hid (cdErr c = (if c.out.all (fun r => inR r c.regs) = false then 18 else if ¬ c.out.Nodup then 9 else 0) ∧ cdIx c = (if c.out.all (fun r => inR r c.regs) = false then -1 else if ¬ c.out.Nodup then -1 else 0)) := by
        have h0 : insErrs c.width c.regs c.ins = 0 := insErrs_zero.2 fun y hy => by
          obtain ⟨j, hj, rfl⟩ := List.getElem_of_mem hy
          exact hv.out j hj (by omega)
        show _ ∧ _
        rw [HE0.out.1, HE0.out.2, if_neg (not_not_intro h0), if_neg (not_not_intro h0)]
        exact ⟨rfl, rfl⟩
      have KC2 := Lib.hid KC1.out
      clear z0 z1 z2 z3
      obtain ⟨w2, hw2'⟩ : ∃ w2, w2 = wr := ⟨_, rfl⟩
      subst hw2'
      obtain ⟨z0, z1, z2, z3⟩ := cd_block4 KC2.out
      go_wp2
      go_loopw [6] (fun i wr => ∃ k : Nat, k ≤ c.out.length ∧ i = .int .i64 k ∧ Hid (∀ j (hj : j < c.out.length), j < k → inR c.out[j] c.regs = true) ∧ Hid (Drawn w2 wr)) (fun i _ => c.out.length - (intOf i).toNat)
      case atStart => exact ⟨0, by omega, rfl, fun j hj h => by omega, Drawn.refl _⟩
      case round =>
        clear z0 z1 z2 z3
        obtain ⟨m, hm9, rfl, hv2, HD⟩ := hrel
        obtain ⟨z0, z1, z2, z3⟩ := cd_block4 (HD.out.heap KC2.out)
        by_cases hlt2 : m < c.out.length
        · obtain ⟨b, o, rfl, -, -, hc⟩ := ((HO.out.frame (Same.below HB.out)).frame (Same.drawn _ HD.out)).vals (by omega) 0
          have d5 := hc m hlt2
          rw [getD_at _ hlt2] at d5
          clear hc
          have HB5 := Lib.hid (fun (hq : inR c.out[m] c.regs = false) => show cdErr c = 18 ∧ cdIx c = -1 from by
            have h1 : c.out.all (fun r => inR r c.regs) = false := List.all_eq_false.2 ⟨_, List.getElem_mem hlt2, by simp [hq]⟩
            rw [HE1.out.1, HE1.out.2, if_pos h1, if_pos h1]
            exact ⟨rfl, rfl⟩)
          have HV5 := Lib.hid (fun (hq : inR c.out[m] c.regs = true) j (hj : j < c.out.length) (hjk : j < m + 1) => show inR c.out[j] c.regs = true from by
            rcases Nat.lt_or_ge j m with h' | h'
            · exact hv2.out j hj h'
            · obtain rfl : j = m := by omega
              exact hq)
          generalize c.out[m] = r at *
          go_wp2_with fail
          by_cases h0 : 0 ≤ r
          · have t0 : decide (r < 0) = false := decide_eq_false (by omega)
            by_cases h1 : r < c.regs
            · have HV6 := Lib.hid (HV5.out (by unfold inR; exact decide_eq_true ⟨h0, h1⟩))
              have t1 : decide (c.regs ≤ r) = false := decide_eq_false (by omega)
              clear h0 h1
              go_quiet (fail)
              have D6 := Lib.hid (HD.out.trans (Drawn.of wr nq))
              go_wp2
              go_roundw
              case rel => exact ⟨m + 1, by omega, by go_num, HV6.out, D6.out⟩
              case measure => simp [intOf]; omega
            · have HE := Lib.hid (HB5.out (by unfold inR; exact decide_eq_false (by omega)))
              have t1 : decide (c.regs ≤ r) = true := decide_eq_true (by omega)
              clear h0 h1
              go_quiet (fail)
              have D6 := Lib.hid (HD.out.trans (Drawn.of wr nq))
              go_wp2
              go_ret2
              exact ⟨ret_two HE.out.2.symm HE.out.1.symm, HB.out.trans (D6.out.below _)⟩
          · have HE := Lib.hid (HB5.out (by unfold inR; exact decide_eq_false (by omega)))
            have t0 : decide (r < 0) = true := decide_eq_true (by omega)
            clear h0
            go_quiet (fail)
            have D6 := Lib.hid (HD.out.trans (Drawn.of wr nq))
            go_wp2
            go_ret2
            exact ⟨ret_two HE.out.2.symm HE.out.1.symm, HB.out.trans (D6.out.below _)⟩
        · have HE2 : Hid (cdErr c = (if ¬ c.out.Nodup then 9 else 0) ∧ cdIx c = (if ¬ c.out.Nodup then -1 else 0)) := by
            have h1 : ¬ c.out.all (fun r => inR r c.regs) = false := by
              rw [Bool.not_eq_false, List.all_eq_true]
              intro y hy
              obtain ⟨j, hj, rfl⟩ := List.getElem_of_mem hy
              exact hv2.out j hj (by omega)
            show _ ∧ _
            rw [HE1.out.1, HE1.out.2, if_neg h1, if_neg h1]
            exact ⟨rfl, rfl⟩
          have KC3 := Lib.hid (HD.out.heap KC2.out)
          have HO3 := Lib.hid ((HO.out.frame (Same.below HB.out)).frame (Same.drawn _ HD.out))
          have B3 := Lib.hid (HB.out.trans (HD.out.below _))
          obtain ⟨w3, hw3'⟩ : ∃ w3, w3 = wr := ⟨_, rfl⟩
          subst hw3'
          go_wp2
          go_loopw [7] (fun i wr => ∃ k : Nat, k ≤ c.out.length ∧ i = .int .i64 k ∧ Hid ((c.out.take k).Nodup) ∧ Hid (Drawn w3 wr)) (fun i _ => c.out.length - (intOf i).toNat)
          case atStart => exact ⟨0, by omega, rfl, by simp [Hid], Drawn.refl _⟩
          case round =>
            clear z0 z1 z2 z3
            obtain ⟨n, hn9, rfl, hv3, HD3⟩ := hrel
            have KC4 := Lib.hid (HD3.out.heap KC3.out)
            obtain ⟨z0, z1, z2, z3⟩ := cd_block4 KC4.out
            by_cases hlt3 : n < c.out.length
            · obtain ⟨b, o, rfl, -, -, hc⟩ := (HO3.out.frame (Same.drawn _ HD3.out)).vals (by omega) 0
              have HN := Lib.hid (nodup_take_succ hlt3 hv3.out)
              have d5 := hc n hlt3
              rw [getD_at _ hlt3] at d5
              have HC := Lib.hid hc
              have HR := Lib.hid (show c.out[n] = c.out[n] from rfl)
              clear hc
              obtain ⟨w4, hw4'⟩ : ∃ w4, w4 = wr := ⟨_, rfl⟩
              subst hw4'
              go_wp2_with fail
              go_loopw [8] (fun i wr => ∃ k : Nat, k ≤ n ∧ i = .int .i64 k ∧ Hid (∀ j (hj : j < c.out.length), j < k → c.out[j] ≠ c.out[n]) ∧ Hid (Drawn w4 wr)) (fun i _ => n - (intOf i).toNat)
              case atStart => exact ⟨0, by omega, rfl, fun j hj h => by omega, Drawn.refl _⟩
              case round =>
                clear z0 z1 z2 z3 d5
                obtain ⟨m, hm9, rfl, hv4, HD4⟩ := hrel
                obtain ⟨z0, z1, z2, z3⟩ := cd_block4 (HD4.out.heap KC4.out)
                have d5 := HD4.out.cell (HC.out n hlt3)
                rw [getD_at _ hlt3] at d5
                by_cases hlt4 : m < n
                · have hlt5 : m < c.out.length := by omega
                  have d6 := HD4.out.cell (HC.out m hlt5)
                  rw [getD_at _ hlt5] at d6
                  go_wp2_with fail
                  go_quiet (fail)
                  have D6 := Lib.hid (HD4.out.trans (Drawn.of wr nq))
                  by_cases hq : c.out[m] = c.out[n]
                  · have HE : Hid (cdErr c = 9 ∧ cdIx c = -1) := by
                      have h1 : ¬ c.out.Nodup := fun hh => by
                        exact List.pairwise_iff_getElem.1 hh m n hlt5 hlt3 hlt4 hq
                      show _ ∧ _
                      rw [HE2.out.1, HE2.out.2, if_pos h1, if_pos h1]
                      exact ⟨rfl, rfl⟩
                    have t0 : (c.out[m] == c.out[n]) = true := by simpa using hq
                    clear hq
                    go_wp2
                    go_ret2
                    exact ⟨ret_two HE.out.2.symm HE.out.1.symm, B3.out.trans ((HD3.out.trans D6.out).below _)⟩
                  · have t0 : (c.out[m] == c.out[n]) = false := by simpa using hq
                    have HV6 : Hid (∀ j (hj : j < c.out.length), j < m + 1 → c.out[j] ≠ c.out[n]) := fun j hj hjk => by
                      rcases Nat.lt_or_ge j m with h' | h'
                      · exact hv4.out j hj h'
                      · obtain rfl : j = m := by omega
                        exact hq
                    clear hq
                    go_wp2
                    go_roundw
                    case rel => exact ⟨m + 1, by omega, by go_num, HV6.out, D6.out⟩
                    case measure => simp [intOf]; omega
                · have HV : Hid ((c.out.take (n + 1)).Nodup) := HN.out.2 (by
                    rw [Bool.eq_false_iff]
                    intro hc
                    obtain ⟨j, hj, e⟩ := List.getElem_of_mem (List.contains_iff_mem.1 hc)
                    rw [List.getElem_take] at e
                    simp at hj
                    exact hv4.out j (by omega) (by omega) e)
                  go_wp2_with fail
                  go_roundw
                  case rel => exact ⟨n + 1, by omega, by go_num, HV.out, HD3.out.trans HD4.out⟩
                  case measure => simp [intOf]; omega
            · have HE : Hid (cdErr c = 0 ∧ cdIx c = 0) := by
                have h1 : c.out.Nodup := by have := hv3.out; rwa [List.take_of_length_le (by omega)] at this
                show _ ∧ _
                rw [HE2.out.1, HE2.out.2, if_neg (not_not_intro h1), if_neg (not_not_intro h1)]
                exact ⟨rfl, rfl⟩
              go_wp2_with fail
              go_ret2
              exact ⟨ret_two HE.out.2.symm HE.out.1.symm, B3.out.trans (HD3.out.below _)⟩
end Go.Proofs.Sat
