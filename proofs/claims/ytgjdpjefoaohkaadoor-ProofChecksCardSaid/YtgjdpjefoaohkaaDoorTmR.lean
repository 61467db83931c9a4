/- The walks of the functions over terms. -/
import Derived.Test.YtgjdpjefoaohkaaDoorProg
import Derived.Test.YtgjdpjefoaohkaaDoorBase
import Derived.Test.YtgjdpjefoaohkaaDoorTmW
import Derived.Deep.QuietTactic
import Derived.BigQuiet
import Derived.Deep.LoopGhost
import Derived.Deep.RegionHeld3
import Derived.Test.YtgjdpjefoaohkaaDoorOps
set_option linter.unusedVariables false
set_option linter.unusedSimpArgs false
namespace Go.Proofs.Sat
open Go Go.RowKit
set_option maxHeartbeats 400000 in
theorem ref06_count : ∀ (m : Nat) (x : Tm), SizeOf.sizeOf x ≤ m → ∀ (S : Nat → Prop) (a : Option Addr) (c : Nat) (w : World) (depth left : Int), Rd kT S w a c x.args → depth ≤ 60 → -9223372036854775808 ≤ depth → left ≤ 60 → -9223372036854775808 ≤ left →
    Calls Tryd.prog 50 #[tmVal x a c, .int .i64 depth, .int .i64 left] w fun e w' => ∃ v : Int, e = .returned (.int .i64 v) ∧ -1 ≤ v ∧ v ≤ 60 ∧ (0 ≤ v → v < left ∧ Few 60 x) ∧ Below w.heap.size w w' := by
  intro m
  induction m with
  | zero => intro x hx; exact absurd hx (by have : 0 < SizeOf.sizeOf x := by cases x; simp; omega
                                            omega)
  | succ m ih =>
    intro x hx S a c w depth left h hd1 hd2 hl1 hl2
    unfold tmVal
    go_enter Tryd.func50, Tryd.ntmps50
    have hlen := h.le
    have hx1 : x.args.length ≤ 9223372036854775807 := hlen
    by_cases hd : depth < 1
    · go_wp2
      go_ret
      exact ⟨-1, rfl, by omega, by omega, fun h => by omega, (Below.refl _ _).alloc (Nat.le_refl _) _⟩
    by_cases hl : left < 1
    · go_wp2
      go_ret
      exact ⟨-1, rfl, by omega, by omega, fun h => by omega, (Below.refl _ _).alloc (Nat.le_refl _) _⟩
    go_wp2
    go_loopw [2, 7] (fun lv i wr => ∃ (k : Nat) (L : Int), k ≤ x.args.length ∧ i = .int .i64 k ∧ lv = .int .i64 L ∧ -1 ≤ L ∧ L ≤ 60 ∧ Hid (0 ≤ L → L ≤ left - 1 - k ∧ ∀ j (hj : j < x.args.length), j < k → Few 60 x.args[j]) ∧ Hid (Below w.heap.size w wr) ∧
      wr.heap[w.heap.size]? = some (.cells #[.int .i64 x.op, .int .i64 x.width, .int .u64 x.val, .string x.name, .slice a x.args.length c] 34 (0, 0))) (fun _ i _ => x.args.length - (intOf i).toNat)
    case atStart => exact ⟨0, left - 1, by omega, rfl, rfl, by omega, by omega, fun h => ⟨by omega, fun j hj h => by omega⟩, (Below.refl _ _).alloc (Nat.le_refl _) _, heap_alloc_new w _⟩
    case round =>
      obtain ⟨k, L, hk, rfl, rfl, hL1, hL2, HP, HB, hblk⟩ := hrel
      have c4 : wr.cell? ⟨w.heap.size, 4, none⟩ = some (.slice a x.args.length c) := by simp [World.cell?, hblk]
      have HBK := Lib.hid hblk
      clear hblk
      by_cases hlt : k < x.args.length
      · by_cases hL : 0 ≤ L
        · obtain ⟨b, o, a', c', rfl, hb, hr, ⟨e0, e1, e2, e3, e4⟩⟩ := tm_elem (h.frame (Same.below HB.out)) hlt
          have IH := Lib.hid (ih x.args[k] (by have := x.arg_lt (List.getElem_mem hlt); omega) S a' c')
          generalize hy : x.args[k] = y at *
          have HY := Lib.hid hy
          clear hy
          go_wp2_with (first
            | (go_at_call 50; refine (IH.out wr (depth - 1) L (by exact hr) (by omega) (by omega) (by omega) (by omega)).mono ?_; rintro e w1 ⟨v, rfl, hv1, hv2, hv3, hb1⟩)
            | fail)
          go_roundw
          case rel =>
            refine ⟨k + 1, v, by omega, by go_num, rfl, hv1, hv2, fun h0 => ?_, below_both HB.out hb1, block_below hb1 HBK.out⟩
            obtain ⟨q1, q2⟩ := hv3 h0
            obtain ⟨q3, q4⟩ := HP.out (by omega)
            refine ⟨by omega, fun j hj hjk => ?_⟩
            rcases Nat.lt_or_ge j k with h' | h'
            · exact q4 j hj h'
            · obtain rfl : j = k := by omega
              rw [HY.out]; exact q2
          case measure => simp [intOf]; omega
        · go_wp2
          go_ret
          exact ⟨L, rfl, by omega, by omega, fun h => by omega, HB.out⟩
      · have hke : k = x.args.length := by omega
        go_wp2
        all_goals go_ret
        all_goals refine ⟨L, rfl, by omega, by omega, fun h => ?_, HB.out⟩
        all_goals obtain ⟨q3, q4⟩ := HP.out h
        all_goals exact ⟨by omega, .mk (by omega) fun y hy => by obtain ⟨j, hj, rfl⟩ := List.getElem_of_mem hy; exact q4 j hj (by omega)⟩
/-- What is told of a function that compares two terms. -/
def SameTells (n : FuncId) (x : Tm) : Prop := ∀ (y : Tm) (S1 S2 : Nat → Prop) (a1 a2 : Option Addr) (c1 c2 : Nat) (w : World), Rd kT S1 w a1 c1 x.args → Rd kT S2 w a2 c2 y.args →
  Calls Tryd.prog n #[tmVal x a1 c1, tmVal y a2 c2] w fun e w' => e = .returned (.bool (decide (x = y))) ∧ Below w.heap.size w w'
set_option maxHeartbeats 400000 in
theorem ref06_SameAll_of (S1 S2 : Nat → Prop) (a1 a2 : Option Addr) (c1 c2 : Nat) (l1 l2 : List Tm) (w : World) (h1 : Rd kT S1 w a1 c1 l1) (h2 : Rd kT S2 w a2 c2 l2) (hS : ∀ x ∈ l1, SameTells 35 x) :
    Calls Tryd.prog 51 #[.slice a1 l1.length c1, .slice a2 l2.length c2] w fun e w' => e = .returned (.bool (decide (l1 = l2))) ∧ Below w.heap.size w w' := by
  have hl1 := h1.le
  have hl2 := h2.le
  go_enter Tryd.func51, Tryd.ntmps51
  by_cases he : l1.length = l2.length
  · have hb : (l1.length != l2.length) = false := by simp [he]
    have hb' : ((l1.length : Int) != (l2.length : Int)) = false := by simp [he]
    have HE := Lib.hid he
    clear he
    go_wp2
    go_loopw [5] (fun i wr => ∃ k : Nat, k ≤ l1.length ∧ i = .int .i64 k ∧ Hid (∀ i (h : i < l1.length) (h' : i < l2.length), i < k → l1[i] = l2[i]) ∧ Hid (Below w.heap.size w wr)) (fun i _ => l1.length - (intOf i).toNat)
    case atStart => exact ⟨0, by omega, rfl, fun i h => by omega, Below.refl _ _⟩
    case round =>
      obtain ⟨k, hk, rfl, hv, HB⟩ := hrel
      by_cases hlt : k < l1.length
      · have hlt2 : k < l2.length := by have := HE.out; omega
        obtain ⟨b1, o1, a1', c1', rfl, lt1, hr1, P⟩ := tm_elem (h1.frame (Same.below HB.out)) hlt
        obtain ⟨b2, o2, a2', c2', rfl, lt2, hr2, Q⟩ := tm_elem (h2.frame (Same.below HB.out)) hlt2
        have CT := Lib.hid fun n => hS l1[k] (List.getElem_mem hlt) l2[k] _ _ _ _ _ _ (wr.drewN n) (hr1.frame (Same.drewN _ wr n)) (hr2.frame (Same.drewN _ wr n))
        clear hb hb' hr1 hr2
        generalize hx1 : l1[k] = x1 at *
        generalize hx2 : l2[k] = x2 at *
        have PH := Lib.hid P
        have QH := Lib.hid Q
        clear P Q
        have HX1 := Lib.hid hx1
        have HX2 := Lib.hid hx2
        clear hx1 hx2
        by_cases hq : x1 = x2
        · have hq' : decide (x1 = x2) = true := by simpa using hq
          have HQ := Lib.hid hq
          clear hq
          rw [hq'] at CT
          go_wp2_with fail
          go_region_held3 (fun w' => (w'.cell? ⟨b1, o1 + k * 5, none⟩ = some (.int .i64 x1.op) ∧ w'.cell? ⟨b1, o1 + k * 5 + 1, none⟩ = some (.int .i64 x1.width) ∧ w'.cell? ⟨b1, o1 + k * 5 + 2, none⟩ = some (.int .u64 x1.val) ∧ w'.cell? ⟨b1, o1 + k * 5 + 3, none⟩ = some (.string x1.name) ∧ w'.cell? ⟨b1, o1 + k * 5 + 4, none⟩ = some (.slice a1' x1.args.length c1')) ∧
            (w'.cell? ⟨b2, o2 + k * 5, none⟩ = some (.int .i64 x2.op) ∧ w'.cell? ⟨b2, o2 + k * 5 + 1, none⟩ = some (.int .i64 x2.width) ∧ w'.cell? ⟨b2, o2 + k * 5 + 2, none⟩ = some (.int .u64 x2.val) ∧ w'.cell? ⟨b2, o2 + k * 5 + 3, none⟩ = some (.string x2.name) ∧ w'.cell? ⟨b2, o2 + k * 5 + 4, none⟩ = some (.slice a2' x2.args.length c2')))
            (first | exact ⟨PH.out, QH.out⟩ | exact ⟨PH.out.frame (hb1.out.block b1 lt1), QH.out.frame (hb1.out.block b2 lt2)⟩)
            (first
            | (go_at_call 35; refine (CT.out _).mono ?_; rintro e w1 ⟨rfl, hb1⟩; replace hb1 := Lib.hid hb1)
            | fail)
          go_wp2
          go_roundw
          case rel =>
            refine ⟨k + 1, by omega, by go_num, fun i hi hi2 hik => ?_, below_both (below_drewN HB.out _) hb1.out⟩
            rcases Nat.lt_or_ge i k with h' | h'
            · exact hv.out i hi hi2 h'
            · obtain rfl : i = k := by omega
              rw [HX1.out, HX2.out, HQ.out]
          case measure => simp [intOf]; omega
        · have hq' : decide (x1 = x2) = false := by simpa using hq
          have HQ := Lib.hid hq
          clear hq
          rw [hq'] at CT
          go_wp2_with fail
          go_region_held3 (fun w' => (w'.cell? ⟨b1, o1 + k * 5, none⟩ = some (.int .i64 x1.op) ∧ w'.cell? ⟨b1, o1 + k * 5 + 1, none⟩ = some (.int .i64 x1.width) ∧ w'.cell? ⟨b1, o1 + k * 5 + 2, none⟩ = some (.int .u64 x1.val) ∧ w'.cell? ⟨b1, o1 + k * 5 + 3, none⟩ = some (.string x1.name) ∧ w'.cell? ⟨b1, o1 + k * 5 + 4, none⟩ = some (.slice a1' x1.args.length c1')) ∧
            (w'.cell? ⟨b2, o2 + k * 5, none⟩ = some (.int .i64 x2.op) ∧ w'.cell? ⟨b2, o2 + k * 5 + 1, none⟩ = some (.int .i64 x2.width) ∧ w'.cell? ⟨b2, o2 + k * 5 + 2, none⟩ = some (.int .u64 x2.val) ∧ w'.cell? ⟨b2, o2 + k * 5 + 3, none⟩ = some (.string x2.name) ∧ w'.cell? ⟨b2, o2 + k * 5 + 4, none⟩ = some (.slice a2' x2.args.length c2')))
            (first | exact ⟨PH.out, QH.out⟩ | exact ⟨PH.out.frame (hb1.out.block b1 lt1), QH.out.frame (hb1.out.block b2 lt2)⟩)
            (first
            | (go_at_call 35; refine (CT.out _).mono ?_; rintro e w1 ⟨rfl, hb1⟩; replace hb1 := Lib.hid hb1)
            | fail)
          go_wp2
          go_ret
          refine ⟨ret_bool ?_, below_both (below_drewN HB.out _) hb1.out⟩
          symm
          rw [decide_eq_false_iff_not]
          rintro rfl
          exact HQ.out (HX1.out.symm.trans HX2.out)
      · clear hb hb'
        go_wp2
        go_ret
        refine ⟨ret_bool ?_, HB.out⟩
        symm
        rw [decide_eq_true_eq, eq_iff_elems]
        exact ⟨HE.out, fun i hi hi2 => hv.out i hi hi2 (by omega)⟩
  · have hb : (l1.length != l2.length) = true := by simp [he]
    have hb' : ((l1.length : Int) != (l2.length : Int)) = true := by simp; omega
    go_wp2
    go_ret
    refine ⟨ret_bool ?_, Below.refl _ _⟩
    symm
    rw [decide_eq_false_iff_not]
    rintro rfl
    exact he rfl
set_option maxHeartbeats 400000 in
theorem ref06_Same : ∀ (m : Nat) (x : Tm), SizeOf.sizeOf x ≤ m → SameTells 35 x := by
  intro m
  induction m with
  | zero => intro x hx; exact absurd hx (by have : 0 < SizeOf.sizeOf x := by cases x; simp; omega
                                            omega)
  | succ m ih =>
    intro x hx y S1 S2 a1 a2 c1 c2 w h1 h2
    have HA := Lib.hid fun w' h1 h2 => ref06_SameAll_of S1 S2 a1 a2 c1 c2 x.args y.args w' h1 h2 (fun z hz => ih z (by have := x.arg_lt hz; omega))
    have HE := Lib.hid (Tm.ext_iff (x := x) (y := y))
    unfold tmVal
    go_enter Tryd.func35, Tryd.ntmps35
    by_cases e1 : x.op = y.op
    case neg =>
      have b1 : (x.op == y.op) = false := by simpa using e1
      have HF := Lib.hid (show decide (x = y) = false from decide_eq_false fun h => e1 (HE.out.1 h).1)
      clear e1
      rw [HF.out]
      go_wp2
      all_goals go_ret
      all_goals exact ⟨rfl, ((Below.refl _ _).alloc (Nat.le_refl _) _).alloc (by simp) _⟩
    have b1 : (x.op == y.op) = true := by simpa using e1
    replace e1 := Lib.hid e1
    by_cases e2 : x.width = y.width
    case neg =>
      have b2 : (x.width == y.width) = false := by simpa using e2
      have HF := Lib.hid (show decide (x = y) = false from decide_eq_false fun h => e2 (HE.out.1 h).2.1)
      clear e2
      rw [HF.out]
      go_wp2
      all_goals go_ret
      all_goals exact ⟨rfl, ((Below.refl _ _).alloc (Nat.le_refl _) _).alloc (by simp) _⟩
    have b2 : (x.width == y.width) = true := by simpa using e2
    replace e2 := Lib.hid e2
    by_cases e3 : x.val = y.val
    case neg =>
      have b3 : (x.val == y.val) = false := by simpa using e3
      have HF := Lib.hid (show decide (x = y) = false from decide_eq_false fun h => e3 (HE.out.1 h).2.2.1)
      clear e3
      rw [HF.out]
      go_wp2
      all_goals go_ret
      all_goals exact ⟨rfl, ((Below.refl _ _).alloc (Nat.le_refl _) _).alloc (by simp) _⟩
    have b3 : (x.val == y.val) = true := by simpa using e3
    replace e3 := Lib.hid e3
    by_cases e4 : x.name = y.name
    case neg =>
      have b4 : (x.name.toList == y.name.toList) = false := by rw [bytes_beq]; exact decide_eq_false e4
      have HF := Lib.hid (show decide (x = y) = false from decide_eq_false fun h => e4 (HE.out.1 h).2.2.2.1)
      clear e4
      rw [HF.out]
      go_wp2
      all_goals go_ret
      all_goals exact ⟨rfl, ((Below.refl _ _).alloc (Nat.le_refl _) _).alloc (by simp) _⟩
    have b4 : (x.name.toList == y.name.toList) = true := by rw [bytes_beq]; exact decide_eq_true e4
    replace e4 := Lib.hid e4
    have HD := Lib.hid (show decide (x = y) = decide (x.args = y.args) from by
      have := HE.out
      by_cases h : x.args = y.args
      · rw [decide_eq_true h, decide_eq_true (this.2 ⟨e1.out, e2.out, e3.out, e4.out, h⟩)]
      · rw [decide_eq_false h, decide_eq_false fun h' => h (this.1 h').2.2.2.2])
    rw [HD.out]
    go_wp2_with (first
      | (go_at_call 51; refine (HA.out _ (by exact (h1.frame (Same.alloc _ _ _)).frame (Same.alloc _ _ _)) (by exact (h2.frame (Same.alloc _ _ _)).frame (Same.alloc _ _ _))).mono ?_; rintro e w1 ⟨rfl, hb1⟩; have B1 := Lib.hid (below_both (((Below.refl w.heap.size w).alloc (Nat.le_refl _) _).alloc (by simp) _) hb1))
      | fail)
    all_goals go_ret
    all_goals exact ⟨rfl, B1.out⟩
end Go.Proofs.Sat
