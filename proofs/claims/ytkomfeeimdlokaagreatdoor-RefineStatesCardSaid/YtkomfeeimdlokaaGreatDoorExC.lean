/- The walk of exec.step, in place in a state's block. -/
import Derived.Test.YtkomfeeimdlokaaGreatDoorExB
import Derived.Test.YtkomfeeimdlokaaGreatDoorLvB
set_option linter.unusedVariables false
set_option linter.unusedSimpArgs false
namespace Go.Proofs.Sat
open Go Go.RowKit
/-- Nothing but block g has changed, and new blocks. -/
def But (g : Nat) (w w' : World) : Prop := Below g w w' ∧ Same (fun b => b ≠ g) w w'
theorem But.refl (g : Nat) (w : World) : But g w w := ⟨Below.refl _ _, Same.refl _ _⟩
theorem But.trans {g : Nat} {w w1 w2 : World} (h : But g w w1) (k : But g w1 w2) : But g w w2 := ⟨h.1.trans k.1, h.2.trans k.2⟩
theorem But.of_below {g : Nat} {w w' : World} (h : Below w.heap.size w w') (hg : g ≤ w.heap.size) : But g w w' := ⟨⟨h.os, h.tape, h.output, h.size, fun i hi => h.block i (by omega)⟩, Same.below h⟩
theorem But.drawn {g : Nat} {w w' : World} (h : Drawn w w') : But g w w' := ⟨h.below _, Same.drawn _ h⟩
theorem But.set {g i : Nat} {w w' : World} (h : But g w w') (v : Value) : But g w (w'.setCell ⟨g, i, none⟩ v) :=
  ⟨h.1.setCell (Nat.le_refl _) _, h.2.trans (Same.setCell _ _ (fun b hb => hb))⟩
theorem But.size {g : Nat} {w w' : World} (h : But g w w') : w.heap.size ≤ w'.heap.size := h.2.1
theorem But.block {g b : Nat} {ob : Obj} {w w' : World} (h : But g w w') (hb : w.heap[b]? = some ob) (hne : b ≠ g) : w'.heap[b]? = some ob := (h.2.2 b hne (Array.getElem?_eq_some_iff.1 hb).1).trans hb
theorem But.below {B g : Nat} {w w' : World} (h : But g w w') (hB : B ≤ g) : Below B w w' := ⟨h.1.os, h.1.tape, h.1.output, h.1.size, fun i hi => h.1.block i (by omega)⟩
/-- One instruction: none if it traps. -/
noncomputable def stepE (n : Nat) (s : Nat → Nat) (x : In) : Option (Nat → Nat) := by
  classical exact if x.op = 0 then some s else if trapE s x then none else some (updN s x.dst.toNat (valE n s x))
theorem stepE_nop {n : Nat} {s : Nat → Nat} {x : In} (h : x.op = 0) : stepE n s x = some s := by unfold stepE; rw [if_pos h]
theorem stepE_trap {n : Nat} {s : Nat → Nat} {x : In} (h : x.op ≠ 0) (ht : trapE s x) : stepE n s x = none := by unfold stepE; rw [if_neg h, if_pos ht]
theorem stepE_some {n : Nat} {s : Nat → Nat} {x : In} (h : x.op ≠ 0) (ht : ¬ trapE s x) : stepE n s x = some (updN s x.dst.toNat (valE n s x)) := by unfold stepE; rw [if_neg h, if_neg ht]
theorem valE_lt (n : Nat) (s : Nat → Nat) (x : In) {R : Nat} (h1 : 1 ≤ n) (h2 : n ≤ 64) (hA : x.a.toNat < R) (hB : x.b.toNat < R) (hC : x.c.toNat < R) (hv : ∀ i, i < R → s i < 2 ^ n) : valE n s x < 18446744073709551616 := by
  have h64 := pow_le64 h2
  unfold valE
  split
  · exact mod_u64 _ h2
  · split
    · split
      · exact Nat.lt_of_lt_of_le (hv _ hB) h64
      · exact Nat.lt_of_lt_of_le (hv _ hC) h64
    · exact valN_lt _ _ _ _ h1 h2 (Nat.lt_of_lt_of_le (hv _ hA) h64)
/-- How a step ends: a panic of the trap's type, or the new state in the same block. -/
def StepP (g R : Nat) (o : Option (Nat → Nat)) (e : Ending) (w' : World) : Prop := match o with
  | none => e = .panicked [{ v := .iface 99 (.agg #[]), recovered := false }]
  | some s' => e = .returned (.tuple #[]) ∧ St8 w' g R s'
set_option maxRecDepth 20000 in
set_option maxHeartbeats 2000000 in
theorem exec_step (n R op D A B C I g : Nat) (s : Nat → Nat) (w : World) (hs : St8 w g R s) (h1 : 1 ≤ n) (h2 : n ≤ 64) (hD : D < R) (hA : A < R) (hB : B < R) (hC : C < R) (hI : I < 18446744073709551616) (hv : ∀ i, i < R → s i < 2 ^ n) (ho : op ≤ 19) :
    Calls Tryz.prog 53 #[.int .i64 (n : Int), .agg #[.int .i64 (op : Int), .int .i64 (D : Int), .int .i64 (A : Int), .int .i64 (B : Int), .int .i64 (C : Int), .int .u64 (I : Int)], .slice (some ⟨g, 0, none⟩) R R] w fun e w' => StepP g R (stepE n s ⟨op, D, A, B, C, I⟩) e w' ∧ But g w w' := by
  have BW := Lib.hid (below_alloc (Below.refl w.heap.size w) (.cells #[.int .i64 (op : Int), .int .i64 (D : Int), .int .i64 (A : Int), .int .i64 (B : Int), .int .i64 (C : Int), .int .u64 (I : Int)] 50))
  have KX := Lib.hid (heap_alloc_new w (.cells #[.int .i64 (op : Int), .int .i64 (D : Int), .int .i64 (A : Int), .int .i64 (B : Int), .int .i64 (C : Int), .int .u64 (I : Int)] 50))
  have HG := Lib.hid hs.lt
  have HS := Lib.hid (hs.below BW.out)
  have CD := Lib.hid (isa_Def ⟨op, D, A, B, C, I⟩ (w.alloc (.cells #[.int .i64 (op : Int), .int .i64 (D : Int), .int .i64 (A : Int), .int .i64 (B : Int), .int .i64 (C : Int), .int .u64 (I : Int)] 50)))
  have HV := Lib.hid hv
  have HI := Lib.hid hI
  clear hs hv hI
  go_enter Tryz.func53, Tryz.ntmps53
  obtain ⟨x0, x1, x2, x3, x4, x5⟩ := ins_block KX.out
  by_cases e0 : op = 0
  · have HE := Lib.hid (stepE_nop (n := n) (s := s) (x := ⟨op, D, A, B, C, I⟩) (by show (op : Int) = 0; omega))
    have hdf : defsI ⟨op, D, A, B, C, I⟩ = false := decide_eq_false (by show ¬ (1 ≤ (op : Int) ∧ (op : Int) ≤ 19); omega)
    rw [hdf] at CD
    simp only [Bool.false_eq_true, if_false] at CD
    clear e0 hdf
    go_wp2_with fail
    refine CD.out.mono ?_
    rintro e w3 ⟨rfl, b3⟩
    have B3 := Lib.hid (below_both BW.out b3)
    have G3 := Lib.hid (HS.out.below b3)
    clear b3 CD x0 x1 x2 x3 x4 x5
    go_wp2_with fail
    go_end0
    exact ⟨by rw [HE.out]; exact ⟨rfl, G3.out⟩, But.of_below B3.out (by have := HG.out; omega)⟩
  have HDF : Hid (defsI ⟨op, D, A, B, C, I⟩ = true) := decide_eq_true (by show 1 ≤ (op : Int) ∧ (op : Int) ≤ 19; omega)
  rw [HDF.out] at CD
  simp only [if_true] at CD
  have CV := Lib.hid (fun (W : World) (hW : St8 W g R s) => exec_value n R op D A B C I g s W hW h1 h2 hA hB hC HI.out HV.out (by omega))
  have HTR : Hid (trapE s ⟨op, D, A, B, C, I⟩ → stepE n s ⟨op, D, A, B, C, I⟩ = none) := fun ht => stepE_trap (by show (op : Int) ≠ 0; omega) ht
  have HSM : Hid (¬ trapE s ⟨op, D, A, B, C, I⟩ → stepE n s ⟨op, D, A, B, C, I⟩ = some (updN s D (valE n s ⟨op, D, A, B, C, I⟩))) := fun ht => by
    have := stepE_some (n := n) (x := ⟨op, D, A, B, C, I⟩) (by show (op : Int) ≠ 0; omega) ht
    rw [this]
    rfl
  generalize valE n s ⟨op, D, A, B, C, I⟩ = vv at *
  have hDR : (D : Int) < (R : Int) := by omega
  clear e0
  go_wp2_with fail
  refine CD.out.mono ?_
  rintro e w3 ⟨rfl, b3⟩
  have B3 := Lib.hid (below_both BW.out b3)
  have G3 := Lib.hid (HS.out.below b3)
  have KX3 := Lib.hid (block_below b3 KX.out)
  clear b3 CD x0 x1 x2 x3 x4 x5
  obtain ⟨x0, x1, x2, x3, x4, x5⟩ := ins_block KX3.out
  go_wp2_with fail
  refine (CV.out w3 G3.out).mono ?_
  rintro e w4 ⟨hor, b4⟩
  have B4 := Lib.hid (below_both B3.out b4)
  have G4 := Lib.hid (G3.out.below b4)
  clear b4 x0 x1 x2 x3 x4 x5
  rcases hor with ⟨ht, rfl⟩ | ⟨ht, rfl⟩
  · have HE := Lib.hid (HTR.out ht)
    clear ht
    go_wp2_with fail
    exact ⟨rfl, by rw [HE.out]; rfl, But.of_below B4.out (by have := HG.out; omega)⟩
  · have HE := Lib.hid (HSM.out ht)
    clear ht
    obtain ⟨s1, s2, s3⟩ := G4.out.at hD
    have US := Lib.hid s3
    clear s3
    go_wp2_with fail
    go_end0
    exact ⟨by rw [HE.out]; exact ⟨rfl, US.out vv⟩, (But.of_below B4.out (by have := HG.out; omega)).set _⟩
end Go.Proofs.Sat
