/- What a run of a program leaves, as a function of the start. -/
import Derived.Test.YtkomfeeimdlokaaDoorRaE
set_option linter.unusedVariables false
set_option linter.unusedSimpArgs false
namespace Go.Proofs.Sat
open Go Go.RowKit
abbrev cells8 (s : Nat → Nat) : Array Value := #[.int .u64 (s 0 : Int), .int .u64 (s 1 : Int), .int .u64 (s 2 : Int), .int .u64 (s 3 : Int), .int .u64 (s 4 : Int), .int .u64 (s 5 : Int), .int .u64 (s 6 : Int), .int .u64 (s 7 : Int)]
def updN (s : Nat → Nat) (k v : Nat) : Nat → Nat := fun j => if j = k then v else s j
theorem cells8_get (s : Nat → Nat) {m : Nat} (h : m < 8) : (cells8 s)[m]? = some (.int .u64 (s m : Int)) := by
  rcases (show m = 0 ∨ m = 1 ∨ m = 2 ∨ m = 3 ∨ m = 4 ∨ m = 5 ∨ m = 6 ∨ m = 7 by omega) with rfl | rfl | rfl | rfl | rfl | rfl | rfl | rfl <;> rfl
theorem cells8_set (s : Nat → Nat) {m : Nat} (h : m < 8) (v : Nat) : (cells8 s).setIfInBounds m (.int .u64 (v : Int)) = cells8 (updN s m v) := by
  rcases (show m = 0 ∨ m = 1 ∨ m = 2 ∨ m = 3 ∨ m = 4 ∨ m = 5 ∨ m = 6 ∨ m = 7 by omega) with rfl | rfl | rfl | rfl | rfl | rfl | rfl | rfl <;> simp [cells8, updN, Array.setIfInBounds]
theorem num_at {w : World} {g : Nat} {t : TypeId} {s : Nat → Nat} (hg : w.heap[g]? = some (.cells (cells8 s) t (0, 0))) {m : Nat} (h : m < 8) :
    w.cell? ⟨g, m, none⟩ = some (.int .u64 (s m : Int)) ∧ w.frozen? ⟨g, m, none⟩ = false ∧ ∀ v : Nat, (w.setCell ⟨g, m, none⟩ (.int .u64 (v : Int))).heap[g]? = some (.cells (cells8 (updN s m v)) t (0, 0)) := by
  refine ⟨?_, frozen_of_block hg, fun v => ?_⟩
  · rw [cell_of_row _ _ m _ _ _ hg, cells8_get s h]
  · rw [← cells8_set s h v]
    simp [World.setCell, Array.getElem?_modify, hg]
theorem num_cells {w : World} {g : Nat} {t : TypeId} {s : Nat → Nat} (h : w.heap[g]? = some (.cells (cells8 s) t (0, 0))) :
    w.cell? ⟨g, 0, none⟩ = some (.int .u64 (s 0 : Int)) ∧ w.cell? ⟨g, 1, none⟩ = some (.int .u64 (s 1 : Int)) ∧ w.cell? ⟨g, 2, none⟩ = some (.int .u64 (s 2 : Int)) ∧ w.cell? ⟨g, 3, none⟩ = some (.int .u64 (s 3 : Int)) ∧ w.cell? ⟨g, 4, none⟩ = some (.int .u64 (s 4 : Int)) ∧ w.cell? ⟨g, 5, none⟩ = some (.int .u64 (s 5 : Int)) ∧ w.cell? ⟨g, 6, none⟩ = some (.int .u64 (s 6 : Int)) ∧ w.cell? ⟨g, 7, none⟩ = some (.int .u64 (s 7 : Int)) :=
  ⟨(num_at h (by omega)).1, (num_at h (by omega)).1, (num_at h (by omega)).1, (num_at h (by omega)).1, (num_at h (by omega)).1, (num_at h (by omega)).1, (num_at h (by omega)).1, (num_at h (by omega)).1⟩
theorem num_eight {w : World} {g : Nat} {t : TypeId} {z : Nat → Nat} (hg : w.heap[g]? = some (.cells (cells8 z) t (0, 0))) (s : Nat → Nat) :
    ((((((((w.setCell ⟨g, 0, none⟩ (.int .u64 (s 0 : Int))).setCell ⟨g, 1, none⟩ (.int .u64 (s 1 : Int))).setCell ⟨g, 2, none⟩ (.int .u64 (s 2 : Int))).setCell ⟨g, 3, none⟩ (.int .u64 (s 3 : Int))).setCell ⟨g, 4, none⟩ (.int .u64 (s 4 : Int))).setCell ⟨g, 5, none⟩ (.int .u64 (s 5 : Int))).setCell ⟨g, 6, none⟩ (.int .u64 (s 6 : Int))).setCell ⟨g, 7, none⟩ (.int .u64 (s 7 : Int))).heap[g]? = some (.cells (cells8 s) t (0, 0)) := by
  have h0 := (num_at hg (m := 0) (by omega)).2.2 (s 0)
  have h1 := (num_at h0 (m := 1) (by omega)).2.2 (s 1)
  have h2 := (num_at h1 (m := 2) (by omega)).2.2 (s 2)
  have h3 := (num_at h2 (m := 3) (by omega)).2.2 (s 3)
  have h4 := (num_at h3 (m := 4) (by omega)).2.2 (s 4)
  have h5 := (num_at h4 (m := 5) (by omega)).2.2 (s 5)
  have h6 := (num_at h5 (m := 6) (by omega)).2.2 (s 6)
  have h7 := (num_at h6 (m := 7) (by omega)).2.2 (s 7)
  rw [h7]
  congr 2
theorem eight_far_n (w : World) (g b : Nat) (hb : b ≠ g) (s : Nat → Nat) :
    ((((((((w.setCell ⟨g, 0, none⟩ (.int .u64 (s 0 : Int))).setCell ⟨g, 1, none⟩ (.int .u64 (s 1 : Int))).setCell ⟨g, 2, none⟩ (.int .u64 (s 2 : Int))).setCell ⟨g, 3, none⟩ (.int .u64 (s 3 : Int))).setCell ⟨g, 4, none⟩ (.int .u64 (s 4 : Int))).setCell ⟨g, 5, none⟩ (.int .u64 (s 5 : Int))).setCell ⟨g, 6, none⟩ (.int .u64 (s 6 : Int))).setCell ⟨g, 7, none⟩ (.int .u64 (s 7 : Int))).heap[b]? = w.heap[b]? := by
  simp [World.setCell, Array.getElem?_modify, hb.symm]
theorem below_eight_n {B : Nat} {w0 w : World} {g : Nat} (h : Below B w0 w) (hg : B ≤ g) (s : Nat → Nat) :
    Below B w0 ((((((((w.setCell ⟨g, 0, none⟩ (.int .u64 (s 0 : Int))).setCell ⟨g, 1, none⟩ (.int .u64 (s 1 : Int))).setCell ⟨g, 2, none⟩ (.int .u64 (s 2 : Int))).setCell ⟨g, 3, none⟩ (.int .u64 (s 3 : Int))).setCell ⟨g, 4, none⟩ (.int .u64 (s 4 : Int))).setCell ⟨g, 5, none⟩ (.int .u64 (s 5 : Int))).setCell ⟨g, 6, none⟩ (.int .u64 (s 6 : Int))).setCell ⟨g, 7, none⟩ (.int .u64 (s 7 : Int))) :=
  (((((((h.setCell hg _).setCell hg _).setCell hg _).setCell hg _).setCell hg _).setCell hg _).setCell hg _).setCell hg _
theorem valN_lt (op : Int) (n a b : Nat) (h1 : 1 ≤ n) (h2 : n ≤ 64) (ha : a < 18446744073709551616) : valN op n a b < 18446744073709551616 := by
  have hp := pow_le64 h2
  have hp0 := Nat.two_pow_pos n
  have hm : a % 2 ^ n ≤ a := Nat.mod_le _ _
  have hsh : ∀ (d : Int) (fl : Nat), fl ≤ 1 → shiftN n a d fl < 18446744073709551616 := fun d fl hf => Nat.lt_of_lt_of_le (shSum_lt hf n) hp
  have hb1 : bitN a (n - 1) ≤ 1 := by unfold bitN; omega
  have it : ∀ (p : Prop) [Decidable p] (x y : Nat), x < 18446744073709551616 → y < 18446744073709551616 → (if p then x else y) < 18446744073709551616 := fun p _ x y hx hy => by by_cases h : p <;> simp [h, hx, hy]
  have k10 : udivN n a b < 18446744073709551616 := by unfold udivN; have := Nat.div_le_self (a % 2 ^ n) (b % 2 ^ n); split <;> omega
  have k11 : uremN n a b < 18446744073709551616 := by unfold uremN; have := Nat.mod_le (a % 2 ^ n) (b % 2 ^ n); split <;> omega
  have k7 : xorN n a b < 18446744073709551616 := by unfold xorN; have := orN_lt a b h2; omega
  have k16 : eqN n a b < 18446744073709551616 := it _ _ _ (by omega) (by omega)
  have k17 : ultN n a b < 18446744073709551616 := it _ _ _ (by omega) (by omega)
  have k18 : sltN n a b < 18446744073709551616 := it _ _ _ (by omega) (by omega)
  exact it _ _ _ ha (it _ _ _ (notN_lt _ h2) (it _ _ _ (negN_lt _ h2) (it _ _ _ (andN_lt _ _ h2) (it _ _ _ (orN_lt _ _ h2) (it _ _ _ k7 (it _ _ _ (addN_lt _ _ h2) (it _ _ _ (addN_lt _ _ h2) (it _ _ _ (mod_u64 _ h2) (it _ _ _ k10 (it _ _ _ k11 (it _ _ _ (hsh _ _ (by omega)) (it _ _ _ (hsh _ _ (by omega)) (it _ _ _ (hsh _ _ hb1) (it _ _ _ k16 (it _ _ _ k17 k18)))))))))))))))
/-- One instruction: none if it traps. -/
def stepN (n : Nat) (s : Nat → Nat) (x : In) : Option (Nat → Nat) :=
  if x.op = 0 then some s
  else if x.op = 1 then some (updN s x.dst.toNat x.imm.toNat)
  else if (x.op = 11 ∨ x.op = 12) ∧ s x.b.toNat = 0 then none
  else if x.op = 19 then some (updN s x.dst.toNat (if s x.a.toNat ≠ 0 then s x.b.toNat else s x.c.toNat))
  else some (updN s x.dst.toNat (valN x.op n (s x.a.toNat) (s x.b.toNat)))
def runN (n : Nat) : List In → (Nat → Nat) → (Nat → Nat) × Bool
  | [], s => (s, true)
  | x :: l, s => match stepN n s x with
    | none => (s, false)
    | some s' => runN n l s'
/-- The start: what each register holds, cut to the width. -/
def cutS (n : Nat) (m : Nat → Nat) (k : Nat) : Nat → Nat := fun j => if j < k then m j % 2 ^ n else m j
theorem cutS_succ (n : Nat) (m : Nat → Nat) (k : Nat) : cutS n m (k + 1) = updN (cutS n m k) k (m k % 2 ^ n) := by
  funext j
  unfold cutS updN
  show (if j < k + 1 then _ else _) = (if j = k then _ else if j < k then _ else _)
  by_cases h : j = k
  · subst h; simp
  · by_cases h2 : j < k
    · rw [if_pos (by omega), if_neg h, if_pos h2]
    · rw [if_neg (by omega), if_neg h, if_neg h2]
theorem ins_fields {width regs : Int} {x : In} (hr : 1 ≤ regs) (h : insErr width regs x = 0) : (0 ≤ x.op ∧ x.op ≤ 19) ∧ ((1 ≤ x.op) → 0 ≤ x.dst ∧ x.dst < regs) ∧ (0 ≤ x.a ∧ x.a < regs) ∧ (0 ≤ x.b ∧ x.b < regs) ∧ (0 ≤ x.c ∧ x.c < regs) := by
  unfold insErr at h
  split at h
  · exact absurd h (by decide)
  rename_i hk
  split at h
  · exact absurd h (by decide)
  rename_i hd
  split at h
  · exact absurd h (by decide)
  rename_i hu
  split at h
  · exact absurd h (by decide)
  split at h
  · exact absurd h (by decide)
  rename_i hz
  have hK : 0 ≤ x.op ∧ x.op ≤ 19 := by
    cases hh : knownI x.op
    · exact absurd hh hk
    · exact of_decide_eq_true hh
  have hU : ∀ r ∈ [x.a, x.b, x.c].take (srcN x.op).toNat, 0 ≤ r ∧ r < regs := by
    intro r hr'
    cases hh : inR r regs
    · refine absurd ?_ hu
      rw [List.all_eq_false]
      exact ⟨r, hr', by rw [hh]; simp⟩
    · exact of_decide_eq_true hh
  have hZ : ∀ r ∈ [x.a, x.b, x.c].drop (srcN x.op).toNat, r = 0 := by
    intro r hr'
    cases hh : (r == 0)
    · refine absurd (Or.inr (Or.inr ?_)) hz
      rw [List.all_eq_false]
      exact ⟨r, hr', by rw [hh]; simp⟩
    · simpa using hh
  have hA : ∀ r ∈ [x.a, x.b, x.c], 0 ≤ r ∧ r < regs := by
    intro r hr'
    rw [← List.take_append_drop (srcN x.op).toNat [x.a, x.b, x.c]] at hr'
    rcases List.mem_append.1 hr' with h1 | h1
    · exact hU r h1
    · rw [hZ r h1]; omega
  refine ⟨hK, fun h1 => ?_, hA _ (by simp), hA _ (by simp), hA _ (by simp)⟩
  cases hh : inR x.dst regs
  · exact absurd ⟨decide_eq_true (by omega), hh⟩ hd
  · exact of_decide_eq_true hh
end Go.Proofs.Sat
