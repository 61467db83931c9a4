/- The table of package isa, and what reads it: Sources, Uses, Def. -/
import Derived.Test.YtiepphjpfjfkmaaDoorOps2
import Derived.Test.YtiepphjpfjfkmaaDoorInsW
import Derived.Test.YtiepphjpfjfkmaaDoorLaidW
set_option linter.unusedVariables false
set_option linter.unusedSimpArgs false
namespace Go.Proofs.Sat
open Go Go.RowKit
/-- The table lies in a world (the numbers of sources; the names are not asked here). -/
structure IsaT (w : World) : Prop where
  src : ∀ k, k < 20 → w.cell? ⟨0, k * 2 + 1, none⟩ = some (.int .i64 (srcN k))
theorem IsaT.lt {w : World} (h : IsaT w) : 0 < w.heap.size := World.block_lt_of_cell? _ _ (h.src 0 (by omega))
theorem IsaT.frame {w w' : World} (h : IsaT w) (hb : w'.heap[0]? = w.heap[0]?) : IsaT w' := ⟨fun k hk => (World.cell?_of_block hb).trans (h.src k hk)⟩
theorem IsaT.below {w w' : World} (h : IsaT w) (hb : Below w.heap.size w w') : IsaT w' := h.frame (hb.block _ h.lt)
theorem IsaT.drawn {w w' : World} (h : IsaT w) (hb : Drawn w w') : IsaT w' := h.below (hb.below _)
theorem knownI_iff (op : Int) : knownI op = true ↔ 0 ≤ op ∧ op ≤ 19 := by unfold knownI; exact decide_eq_true_iff
theorem in_block {w : World} {g : Nat} {t : TypeId} {v0 v1 v2 v3 v4 v5 : Value} (h : w.heap[g]? = some (.cells #[v0, v1, v2, v3, v4, v5] t (0, 0))) :
    w.cell? ⟨g, 0, none⟩ = some v0 ∧ w.cell? ⟨g, 1, none⟩ = some v1 ∧ w.cell? ⟨g, 2, none⟩ = some v2 ∧ w.cell? ⟨g, 3, none⟩ = some v3 ∧ w.cell? ⟨g, 4, none⟩ = some v4 ∧ w.cell? ⟨g, 5, none⟩ = some v5 := by
  refine ⟨?_, ?_, ?_, ?_, ?_, ?_⟩ <;> simp [World.cell?, h]
set_option maxHeartbeats 400000 in
theorem isa_known (op : Int) (w : World) : Calls Tryd.prog 12 #[.int .i64 op] w fun e w' => e = .returned (.bool (knownI op)) ∧ Drawn w w' := by
  go_enter Tryd.func12, Tryd.ntmps12
  by_cases h0 : op < 0
  · have HE : Hid (knownI op = false) := decide_eq_false (by omega)
    rw [HE.out]
    go_wp2
    all_goals go_ret
    all_goals exact ⟨rfl, by first | exact Drawn.refl _ | exact Drawn.of _ _⟩
  · by_cases h1 : op < 20
    · have HE : Hid (knownI op = true) := decide_eq_true (by omega)
      rw [HE.out]
      go_wp2
      all_goals go_ret
      all_goals exact ⟨rfl, by first | exact Drawn.refl _ | exact Drawn.of _ _⟩
    · have HE : Hid (knownI op = false) := decide_eq_false (by omega)
      rw [HE.out]
      go_wp2
      all_goals go_ret
      all_goals exact ⟨rfl, by first | exact Drawn.refl _ | exact Drawn.of _ _⟩
set_option maxHeartbeats 400000 in
theorem isa_Sources (op : Int) (w : World) (hK : IsaT w) : Calls Tryd.prog 14 #[.int .i64 op] w fun e w' => e = .returned (.int .i64 (srcN op)) ∧ Drawn w w' := by
  go_enter Tryd.func14, Tryd.ntmps14
  cases hk : knownI op
  · have HE : Hid (srcN op = -1) := by
      show _ = _
      unfold knownI at hk
      rw [decide_eq_false_iff_not] at hk
      unfold srcN
      rw [if_pos (by omega)]
    rw [HE.out]
    go_wp2_with (first
      | (go_at_call 12; refine (isa_known op _).mono ?_; rw [hk]; rintro e w1 ⟨rfl, d1⟩)
      | fail)
    go_ret
    exact ⟨rfl, d1⟩
  · have hb := (knownI_iff op).1 hk
    obtain ⟨k, rfl⟩ := Int.eq_ofNat_of_zero_le hb.1
    have hk20 : k < 20 := by omega
    go_wp2_with (first
      | (go_at_call 12; refine (isa_known k _).mono ?_; rw [hk]; rintro e w1 ⟨rfl, d1⟩; have hc := d1.cell (hK.src k hk20))
      | fail)
    go_ret
    exact ⟨rfl, d1⟩
set_option maxHeartbeats 400000 in
theorem isa_Def (x : In) (w : World) : Calls Tryd.prog 5 #[inVal x] w fun e w' => e = .returned (.tuple #[.int .i64 (if defsI x = true then x.dst else 0), .bool (defsI x)]) ∧ Below w.heap.size w w' := by
  have BW := Lib.hid (below_alloc (Below.refl w.heap.size w) (.cells #[.int .i64 x.op, .int .i64 x.dst, .int .i64 x.a, .int .i64 x.b, .int .i64 x.c, .int .u64 x.imm] 25))
  have KX := Lib.hid (heap_alloc_new w (.cells #[.int .i64 x.op, .int .i64 x.dst, .int .i64 x.a, .int .i64 x.b, .int .i64 x.c, .int .u64 x.imm] 25))
  unfold inVal
  go_enter Tryd.func5, Tryd.ntmps5
  cases hk : knownI x.op
  · have HE : Hid (defsI x = false) := by
      show _ = _
      unfold knownI at hk
      unfold defsI
      rw [decide_eq_false_iff_not] at hk ⊢
      omega
    rw [HE.out]
    go_wp2_with fail
    have CK := isa_known x.op (w.alloc (.cells #[.int .i64 x.op, .int .i64 x.dst, .int .i64 x.a, .int .i64 x.b, .int .i64 x.c, .int .u64 x.imm] 25))
    rw [hk] at CK
    refine CK.mono ?_
    rintro e w1 ⟨rfl, d1⟩
    clear CK
    go_wp2
    go_ret2
    exact ⟨by simp, BW.out.trans (d1.below _)⟩
  · have hb := (knownI_iff x.op).1 hk
    have CK := isa_known x.op (w.alloc (.cells #[.int .i64 x.op, .int .i64 x.dst, .int .i64 x.a, .int .i64 x.b, .int .i64 x.c, .int .u64 x.imm] 25))
    rw [hk] at CK
    replace CK := Lib.hid CK
    by_cases h0 : x.op = 0
    · have HE : Hid (defsI x = false) := by
        show _ = _
        unfold defsI
        rw [decide_eq_false_iff_not]
        omega
      have t0 : (x.op == 0) = true := by simpa using h0
      rw [HE.out]
      clear h0 hb
      go_wp2_with fail
      refine CK.out.mono ?_
      rintro e w1 ⟨rfl, d1⟩
      have c0 := in_block (d1.heap KX.out)
      obtain ⟨f0, f1, f2, f3, f4, f5⟩ := c0
      go_wp2
      go_ret2
      exact ⟨by simp, BW.out.trans (d1.below _)⟩
    · have HE : Hid (defsI x = true) := by
        show _ = _
        unfold defsI
        rw [decide_eq_true_eq]
        omega
      have t0 : (x.op == 0) = false := by simpa using h0
      rw [HE.out]
      clear h0 hb
      go_wp2_with fail
      refine CK.out.mono ?_
      rintro e w1 ⟨rfl, d1⟩
      have c0 := in_block (d1.heap KX.out)
      obtain ⟨f0, f1, f2, f3, f4, f5⟩ := c0
      go_wp2
      go_ret2
      exact ⟨by simp, BW.out.trans (d1.below _)⟩
set_option maxHeartbeats 400000 in
theorem isa_Uses (x : In) (w : World) (hK : IsaT w) : Calls Tryd.prog 8 #[inVal x] w fun e w' => ∃ a c, e = .returned (.slice a (usesI x).length c) ∧ Rd (Kd.int .i64) (fun b => w.heap.size ≤ b) w' a c (usesI x) ∧ Below w.heap.size w w' := by
  have BW := Lib.hid (below_alloc (below_alloc (Below.refl w.heap.size w) (.cells #[.int .i64 x.op, .int .i64 x.dst, .int .i64 x.a, .int .i64 x.b, .int .i64 x.c, .int .u64 x.imm] 25)) (.cells #[.int .i64 x.a, .int .i64 x.b, .int .i64 x.c] 3))
  have KX := Lib.hid (block_alloc (heap_alloc_new w (.cells #[.int .i64 x.op, .int .i64 x.dst, .int .i64 x.a, .int .i64 x.b, .int .i64 x.c, .int .u64 x.imm] 25)) (.cells #[.int .i64 x.a, .int .i64 x.b, .int .i64 x.c] 3))
  have KL := Lib.hid (block_at1 w (.cells #[.int .i64 x.op, .int .i64 x.dst, .int .i64 x.a, .int .i64 x.b, .int .i64 x.c, .int .u64 x.imm] 25) (.cells #[.int .i64 x.a, .int .i64 x.b, .int .i64 x.c] 3))
  unfold inVal
  go_enter Tryd.func8, Tryd.ntmps8
  go_wp2_with fail
  refine (isa_Sources x.op _ (hK.below BW.out)).mono ?_
  rintro e w1 ⟨rfl, d1⟩
  have hs := srcN_le x.op
  have c0 := in_block (d1.heap KX.out)
  obtain ⟨f0, f1, f2, f3, f4, f5⟩ := c0
  have HLN : Hid ((usesI x).length = (srcN x.op).toNat) := by
    show _ = _
    unfold usesI
    rw [List.length_take]
    simp
    omega
  have HB := Lib.hid (BW.out.trans (d1.below _))
  have HR : Hid (Rd (Kd.int .i64) (fun b => w.heap.size ≤ b) w1 (some ⟨w.heap.size + 1, 0, none⟩) 3 (usesI x)) := by
    have h3 : Rd (Kd.int .i64) (fun b => w.heap.size ≤ b) w1 (some ⟨w.heap.size + 1, 0, none⟩) 3 [x.a, x.b, x.c] := rd_block (d1.heap KL.out) (elems_vals [x.a, x.b, x.c]) (by show w.heap.size ≤ w.heap.size + 1; omega) 3 (by simp) (by simp)
    exact h3.take _ (by simp; omega)
  clear d1
  go_wp2
  all_goals go_ret
  all_goals refine ⟨some ⟨w.heap.size + 1, 0, none⟩, 3, ?_, HR.out, HB.out⟩
  all_goals rw [HLN.out]
  all_goals first
    | rfl
    | (have hz : (srcN x.op).toNat = 0 := by omega
       rw [hz]
       rfl)
end Go.Proofs.Sat
