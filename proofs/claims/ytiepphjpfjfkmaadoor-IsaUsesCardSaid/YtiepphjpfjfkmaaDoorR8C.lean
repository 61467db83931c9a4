/- R8A, R8B, R8C, one after the other. -/
import Derived.Test.YtiepphjpfjfkmaaDoorLvU
import Derived.Test.YtiepphjpfjfkmaaDoorLvI
import Derived.Test.YtiepphjpfjfkmaaDoorRaE
import Derived.Test.YtiepphjpfjfkmaaDoorIsaK
set_option linter.unusedVariables false
set_option linter.unusedSimpArgs false
/- Walks of the reference of ch. 48: Known, Sources, Uses, Def. -/
namespace Go.Proofs.Sat
open Go Go.RowKit
set_option maxHeartbeats 1000000 in
theorem ref48_Known (op : Int) (w : World) : Calls Tryd.prog 13 #[.int .i64 op] w fun e w' => e = .returned (.bool (knownI op)) ∧ Drawn w w' := by
  go_enter Tryd.func13, Tryd.ntmps13
  by_cases h0 : 0 ≤ op
  · by_cases h1 : op ≤ 19
    · have HE : Hid (knownI op = true) := decide_eq_true ⟨h0, h1⟩
      rw [HE.out]
      go_wp2
      all_goals go_ret
      all_goals exact ⟨rfl, by first | exact Drawn.refl _ | exact Drawn.of _ _⟩
    · have HE : Hid (knownI op = false) := decide_eq_false (by omega)
      rw [HE.out]
      go_wp2
      all_goals go_ret
      all_goals exact ⟨rfl, by first | exact Drawn.refl _ | exact Drawn.of _ _⟩
  · have HE : Hid (knownI op = false) := decide_eq_false (by omega)
    rw [HE.out]
    go_wp2
    all_goals go_ret
    all_goals exact ⟨rfl, by first | exact Drawn.refl _ | exact Drawn.of _ _⟩
theorem known_false {op : Int} (h : knownI op = false) : srcN op = -1 := by
  unfold knownI at h
  rw [decide_eq_false_iff_not] at h
  unfold srcN
  rw [if_pos (by omega)]
set_option maxHeartbeats 1000000 in
theorem ref48_Sources (op : Int) (w : World) : Calls Tryd.prog 15 #[.int .i64 op] w fun e w' => e = .returned (.int .i64 (srcN op)) ∧ Drawn w w' := by
  go_enter Tryd.func15, Tryd.ntmps15
  go_wp2_with fail
  refine (ref48_Known op w).mono ?_
  rintro e w1 ⟨rfl, d1⟩
  have D1 := Lib.hid d1
  clear d1
  cases hk : knownI op
  · have HE := Lib.hid (known_false hk)
    clear hk
    go_wp2_with fail
    all_goals go_ret
    all_goals exact ⟨ret_int HE.out.symm, by first | exact D1.out | exact D1.out.step _⟩
  have hk' := (decide_eq_true_iff (p := 0 ≤ op ∧ op ≤ 19)).1 hk
  obtain ⟨k0, k1⟩ := hk'
  clear hk
  have HE0 : Hid (srcN op = if op ≤ 1 then 0 else if op ≤ 4 then 1 else if op = 19 then 3 else 2) := by show _ = _; unfold srcN; rw [if_neg (by omega)]
  rcases (show op = 0 ∨ op = 1 ∨ op = 2 ∨ op = 3 ∨ op = 4 ∨ op = 19 ∨ (5 ≤ op ∧ op ≤ 18) by omega) with rfl | rfl | rfl | rfl | rfl | rfl | ⟨h5, h18⟩
  · have HE : Hid (srcN 0 = 0) := by show _ = _; rw [HE0.out]; decide
    clear HE0 k0 k1
    go_wp2_with fail
    all_goals go_ret
    all_goals exact ⟨ret_int HE.out.symm, by first | exact D1.out | exact D1.out.step _⟩
  · have HE : Hid (srcN 1 = 0) := by show _ = _; rw [HE0.out]; decide
    clear HE0 k0 k1
    go_wp2_with fail
    all_goals go_ret
    all_goals exact ⟨ret_int HE.out.symm, by first | exact D1.out | exact D1.out.step _⟩
  · have HE : Hid (srcN 2 = 1) := by show _ = _; rw [HE0.out]; decide
    clear HE0 k0 k1
    go_wp2_with fail
    all_goals go_ret
    all_goals exact ⟨ret_int HE.out.symm, by first | exact D1.out | exact D1.out.step _⟩
  · have HE : Hid (srcN 3 = 1) := by show _ = _; rw [HE0.out]; decide
    clear HE0 k0 k1
    go_wp2_with fail
    all_goals go_ret
    all_goals exact ⟨ret_int HE.out.symm, by first | exact D1.out | exact D1.out.step _⟩
  · have HE : Hid (srcN 4 = 1) := by show _ = _; rw [HE0.out]; decide
    clear HE0 k0 k1
    go_wp2_with fail
    all_goals go_ret
    all_goals exact ⟨ret_int HE.out.symm, by first | exact D1.out | exact D1.out.step _⟩
  · have HE : Hid (srcN 19 = 3) := by show _ = _; rw [HE0.out]; decide
    clear HE0 k0 k1
    go_wp2_with fail
    all_goals go_ret
    all_goals exact ⟨ret_int HE.out.symm, by first | exact D1.out | exact D1.out.step _⟩
  have HE : Hid (srcN op = 2) := by show _ = _; rw [HE0.out, if_neg (by omega), if_neg (by omega), if_neg (by omega)]
  have u0 : (op == 0) = false := by simp; omega
  have u1 : (op == 1) = false := by simp; omega
  have u2 : (op == 2) = false := by simp; omega
  have u3 : (op == 3) = false := by simp; omega
  have u4 : (op == 4) = false := by simp; omega
  have u5 : (op == 19) = false := by simp; omega
  clear HE0 h5 h18 k0 k1
  go_wp2_with fail
  all_goals go_ret
  all_goals exact ⟨ret_int HE.out.symm, by first | exact D1.out | exact D1.out.step _⟩
/-- The register that is defined; 0 where none is. -/
def defD (x : In) : Int := if defsI x = true then x.dst else 0
theorem ret_ib {a a' : Int} {b b' : Bool} (h1 : a = a') (h2 : b = b') : Ending.returned (.tuple #[.int .i64 a, .bool b]) = .returned (.tuple #[.int .i64 a', .bool b']) := by rw [h1, h2]
set_option maxHeartbeats 1000000 in
theorem ref48_Def (x : In) (w : World) : Calls Tryd.prog 6 #[inVal x] w fun e w' => e = .returned (.tuple #[.int .i64 (defD x), .bool (defsI x)]) ∧ Below w.heap.size w w' := by
  have BW := Lib.hid (below_alloc (Below.refl w.heap.size w) (.cells #[.int .i64 x.op, .int .i64 x.dst, .int .i64 x.a, .int .i64 x.b, .int .i64 x.c, .int .u64 x.imm] 25))
  have KX := Lib.hid (heap_alloc_new w (.cells #[.int .i64 x.op, .int .i64 x.dst, .int .i64 x.a, .int .i64 x.b, .int .i64 x.c, .int .u64 x.imm] 25))
  unfold inVal
  go_enter Tryd.func6, Tryd.ntmps6
  go_wp2_with fail
  refine (ref48_Known x.op _).mono ?_
  rintro e w1 ⟨rfl, d1⟩
  have B1 := Lib.hid (BW.out.trans (d1.below _))
  obtain ⟨x0, x1, x2, x3, x4, x5⟩ := in_block (d1.heap KX.out)
  clear d1 BW KX
  cases hk : knownI x.op
  · have HE0 : Hid (defsI x = false) := by
      have h : ¬ (0 ≤ x.op ∧ x.op ≤ 19) := (decide_eq_false_iff_not (p := 0 ≤ x.op ∧ x.op ≤ 19)).1 hk
      exact decide_eq_false (by omega)
    have HE : Hid (0 = defD x) := by show _ = _; unfold defD; rw [HE0.out]; rfl
    clear hk
    go_wp2_with fail
    all_goals go_ret2
    all_goals exact ⟨ret_ib HE.out HE0.out.symm, B1.out⟩
  have hk' := (decide_eq_true_iff (p := 0 ≤ x.op ∧ x.op ≤ 19)).1 hk
  by_cases h0 : x.op = 0
  · have HE0 : Hid (defsI x = false) := decide_eq_false (by omega)
    have t0 : (x.op == 0) = true := by simpa using h0
    have HE : Hid (0 = defD x) := by show _ = _; unfold defD; rw [HE0.out]; rfl
    clear hk hk' h0
    go_wp2_with fail
    all_goals go_ret2
    all_goals exact ⟨ret_ib HE.out HE0.out.symm, B1.out⟩
  · have HE0 : Hid (defsI x = true) := decide_eq_true (by omega)
    have t0 : (x.op == 0) = false := by simpa using h0
    have HE : Hid (x.dst = defD x) := by show _ = _; unfold defD; rw [HE0.out]; rfl
    clear hk hk' h0
    go_wp2_with fail
    all_goals go_ret2
    all_goals exact ⟨ret_ib HE.out HE0.out.symm, B1.out⟩
set_option maxHeartbeats 1000000 in
theorem ref48_Uses (x : In) (w : World) : Calls Tryd.prog 9 #[inVal x] w fun e w' => ∃ a c, e = .returned (.slice a (usesI x).length c) ∧ Rd (Kd.int .i64) (fun b => w.heap.size ≤ b) w' a c (usesI x) ∧ Below w.heap.size w w' := by
  have BW := Lib.hid (below_alloc (below_alloc (Below.refl w.heap.size w) (.cells #[.int .i64 x.op, .int .i64 x.dst, .int .i64 x.a, .int .i64 x.b, .int .i64 x.c, .int .u64 x.imm] 25)) (.cells #[.int .i64 x.a, .int .i64 x.b, .int .i64 x.c] 3))
  have KL := Lib.hid (block_at1 w (.cells #[.int .i64 x.op, .int .i64 x.dst, .int .i64 x.a, .int .i64 x.b, .int .i64 x.c, .int .u64 x.imm] 25) (.cells #[.int .i64 x.a, .int .i64 x.b, .int .i64 x.c] 3))
  have KX := Lib.hid (block_alloc (heap_alloc_new w (.cells #[.int .i64 x.op, .int .i64 x.dst, .int .i64 x.a, .int .i64 x.b, .int .i64 x.c, .int .u64 x.imm] 25)) (.cells #[.int .i64 x.a, .int .i64 x.b, .int .i64 x.c] 3))
  unfold inVal
  go_enter Tryd.func9, Tryd.ntmps9
  obtain ⟨x0, x1, x2, x3, x4, x5⟩ := in_block KX.out
  go_wp2_with fail
  refine (ref48_Sources x.op _).mono ?_
  rintro e w1 ⟨rfl, d1⟩
  have hs := srcN_le x.op
  have HLN : Hid ((usesI x).length = (srcN x.op).toNat) := by
    show _ = _
    unfold usesI
    rw [List.length_take]
    simp
    omega
  have HB := Lib.hid (BW.out.trans (d1.below _))
  have HR : Hid (Rd (Kd.int .i64) (fun b => w.heap.size ≤ b) w1 (some ⟨w.heap.size + 1, 0, none⟩) 3 (usesI x)) := by
    have h3 : Rd (Kd.int .i64) (fun b => w.heap.size ≤ b) w1 (some ⟨w.heap.size + 1, 0, none⟩) 3 [x.a, x.b, x.c] := rd_block (d1.heap KL.out) (elems_vals [x.a, x.b, x.c]) (by show w.heap.size ≤ w.heap.size + 1; omega) 3 (by simp) (by simp)
    exact h3.take _ (by simp; omega)
  obtain ⟨m, hm⟩ : ∃ m : Nat, (m : Int) = max 0 (srcN x.op) := ⟨(srcN x.op).toNat, by omega⟩
  have HM : Hid ((srcN x.op).toNat = m) := by show _ = _; omega
  have hm3 : m ≤ 3 := by omega
  have hmax : max 0 (srcN x.op) = (m : Int) := hm.symm
  clear d1 hm BW KL KX x0 x1 x2 x3 x4 x5
  go_wp2_with fail
  all_goals go_ret
  all_goals refine ⟨some ⟨w.heap.size + 1, 0, none⟩, 3, ?_, HR.out, HB.out⟩
  all_goals rw [HLN.out, HM.out]
  all_goals first | rfl | (have hz : m = 0 := (by omega); subst hz; rfl)
end Go.Proofs.Sat
/- The walk of ref48's ins. -/
namespace Go.Proofs.Sat
open Go Go.RowKit
/-- The registers that an instruction names. -/
def allI (x : In) : List Int := (if defsI x = true then [x.dst] else []) ++ usesI x
theorem allI_len (x : In) : (allI x).length ≤ 4 := by
  unfold allI usesI
  rw [List.length_append, List.length_take]
  split <;> simp <;> omega
theorem insErr_reg {width regs : Int} {x : In} (hk : knownI x.op = true) (h : (allI x).all (fun r => inR r regs) = false) : insErr width regs x = 18 := by
  unfold insErr
  rw [if_neg (by simp [hk])]
  by_cases h2 : defsI x = true ∧ inR x.dst regs = false
  · rw [if_pos h2]
  rw [if_neg h2, if_pos]
  unfold allI at h
  rw [List.all_append] at h
  cases hu : (usesI x).all (fun r => inR r regs)
  · rfl
  · rw [hu, Bool.and_true] at h
    exfalso
    by_cases hd : defsI x = true
    · rw [if_pos hd] at h
      exact h2 ⟨hd, by simpa using h⟩
    · rw [if_neg hd] at h
      simp at h
/-- Is a field set that the operation does not use? -/
def formI (x : In) : Prop := (x.op ≠ 1 ∧ x.imm ≠ 0) ∨ (x.op = 0 ∧ x.dst ≠ 0) ∨ (srcN x.op < 1 ∧ x.a ≠ 0) ∨ (srcN x.op < 2 ∧ x.b ≠ 0) ∨ (srcN x.op < 3 ∧ x.c ≠ 0)
theorem formI_iff {x : In} (hk : knownI x.op = true) : formI x ↔ ((x.op ≠ 1 ∧ x.imm ≠ 0) ∨ (restI x).all (fun r => r == 0) = false) := by
  have hnn := srcN_known hk
  have hle := srcN_le x.op
  obtain ⟨sn, hsn⟩ := Int.eq_ofNat_of_zero_le hnn
  have hsn3 : sn ≤ 3 := by omega
  have hz := restI_zero (x := x) hsn hsn3
  have hz' : (restI x).all (fun r => r == 0) = false ↔ ¬ ((∀ j, sn ≤ j → j < 3 → [x.a, x.b, x.c].getD j 0 = 0) ∧ (x.op = 0 → x.dst = 0)) := by rw [← hz, Bool.not_eq_true]
  rw [hz']
  unfold formI
  rw [hsn]
  constructor
  · rintro (h | h | ⟨h, h'⟩ | ⟨h, h'⟩ | ⟨h, h'⟩)
    · exact .inl h
    · exact .inr fun hh => h.2 (hh.2 h.1)
    · exact .inr fun hh => h' (hh.1 0 (by omega) (by omega))
    · exact .inr fun hh => h' (hh.1 1 (by omega) (by omega))
    · exact .inr fun hh => h' (hh.1 2 (by omega) (by omega))
  · rintro (h | h)
    · exact .inl h
    · apply Decidable.byContradiction
      intro hn
      refine h ⟨fun j h1 h2 => ?_, fun h0 => ?_⟩
      · rcases (show j = 0 ∨ j = 1 ∨ j = 2 by omega) with rfl | rfl | rfl
        · exact Decidable.byContradiction fun hh => hn (.inr (.inr (.inl ⟨by omega, hh⟩)))
        · exact Decidable.byContradiction fun hh => hn (.inr (.inr (.inr (.inl ⟨by omega, hh⟩))))
        · exact Decidable.byContradiction fun hh => hn (.inr (.inr (.inr (.inr ⟨by omega, hh⟩))))
      · exact Decidable.byContradiction fun hh => hn (.inr (.inl ⟨h0, hh⟩))
theorem allI_split {regs : Int} {x : In} (h : (allI x).all (fun r => inR r regs) = true) : ¬ (defsI x = true ∧ inR x.dst regs = false) ∧ (usesI x).all (fun r => inR r regs) = true := by
  unfold allI at h
  rw [List.all_append, Bool.and_eq_true] at h
  refine ⟨?_, h.2⟩
  rintro ⟨hd, hi⟩
  have := h.1
  rw [if_pos hd] at this
  simp [hi] at this
theorem insErr_range {width regs : Int} {x : In} (hk : knownI x.op = true) (h : (allI x).all (fun r => inR r regs) = true) (hr : x.op = 1 ∧ maskI width < x.imm) : insErr width regs x = 2 := by
  obtain ⟨h1, h2⟩ := allI_split h
  unfold insErr
  rw [if_neg (by simp [hk]), if_neg h1, if_neg (by simp [h2]), if_pos hr]
instance (x : In) : Decidable (formI x) := by unfold formI; infer_instance
theorem insErr_form {width regs : Int} {x : In} (hk : knownI x.op = true) (h : (allI x).all (fun r => inR r regs) = true) (hr : ¬ (x.op = 1 ∧ maskI width < x.imm)) : insErr width regs x = if formI x then 19 else 0 := by
  obtain ⟨h1, h2⟩ := allI_split h
  rw [insErr_late hk h1 h2 hr]
  by_cases hf : formI x
  · rw [if_pos hf, if_pos ((formI_iff hk).1 hf)]
  · rw [if_neg hf, if_neg (fun hh => hf ((formI_iff hk).2 hh))]
theorem cut_neq {n : Nat} {i : Int} (hn : n ≤ 64) (h0 : 0 ≤ i) : ((((i.toNat % 2 ^ n : Nat) : Int) != i) = true) ↔ maskI (n : Int) < i := by
  unfold maskI
  rw [Int.toNat_natCast, bne_iff_ne]
  obtain ⟨k, rfl⟩ := Int.eq_ofNat_of_zero_le h0
  rw [Int.toNat_natCast]
  have hp : 0 < 2 ^ n := Nat.two_pow_pos n
  have hc : ((2 ^ n : Nat) : Int) = (2 : Int) ^ n := by simp
  rw [← hc]
  generalize 2 ^ n = M at *
  constructor
  · intro h
    rcases Nat.lt_or_ge k M with h' | h'
    · rw [Nat.mod_eq_of_lt h'] at h
      exact absurd rfl h
    · omega
  · intro h hh
    have h1 := Nat.mod_lt k hp
    omega
theorem srcN_0 : srcN 0 = 0 := by decide
theorem srcN_1 : srcN 1 = 0 := by decide
theorem srcN_cases {op : Int} (hk : knownI op = true) : (op = 0 ∧ op ≠ 1 ∧ srcN op = 0) ∨ (op ≠ 0 ∧ op = 1 ∧ srcN op = 0) ∨ (op ≠ 0 ∧ op ≠ 1 ∧ srcN op = 1) ∨ (op ≠ 0 ∧ op ≠ 1 ∧ srcN op = 2) ∨ (op ≠ 0 ∧ op ≠ 1 ∧ srcN op = 3) := by
  have h := (decide_eq_true_iff (p := 0 ≤ op ∧ op ≤ 19)).1 hk
  unfold srcN
  rw [if_neg (by omega)]
  by_cases h1 : op ≤ 1
  · rw [if_pos h1]; omega
  rw [if_neg h1]
  by_cases h4 : op ≤ 4
  · rw [if_pos h4]; omega
  rw [if_neg h4]
  by_cases h5 : op = 19
  · rw [if_pos h5]; omega
  · rw [if_neg h5]; omega
end Go.Proofs.Sat
/- The walk of the reference's Check of ch. 48. -/
namespace Go.Proofs.Sat
open Go Go.RowKit
end Go.Proofs.Sat
