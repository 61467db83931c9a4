/- strings.Split at a separator of one byte; ParseList of package digits. -/
import Derived.Test.YtiepphjpfjfkmaaGreatDoorDgL
import Derived.Test.YtiepphjpfjfkmaaGreatDoorDgM
import Derived.Lib.IndexBytes
import Derived.Lib.IndexLaws
import Derived.Lib.Split
set_option linter.unusedVariables false
set_option linter.unusedSimpArgs false
namespace Go.Proofs.Sat
open Go Go.RowKit
theorem spl_none {s : UInt8} {l : List UInt8} (h : ∀ k : Nat, l[k]? ≠ some s) : spl s l = [l] := by
  induction l with
  | nil => rfl
  | cons c r ih =>
    have h1 : c ≠ s := fun e => h 0 (by simp [e])
    have h2 := ih (fun k hk => h (k + 1) (by simpa using hk))
    unfold spl
    rw [if_neg h1, h2]
    simp [glue]
theorem spl_at {s : UInt8} {l : List UInt8} {i : Nat} (h : l[i]? = some s) (hb : ∀ k : Nat, k < i → l[k]? ≠ some s) : spl s l = l.take i :: spl s (l.drop (i + 1)) := by
  induction l generalizing i with
  | nil => cases h
  | cons c r ih =>
    cases i with
    | zero =>
      simp at h
      conv => lhs; unfold spl
      rw [if_pos h]
      simp
    | succ i =>
      have h1 : c ≠ s := fun e => hb 0 (by omega) (by simp [e])
      have h2 := ih (i := i) (by simpa using h) (fun k hk => by have := hb (k + 1) (by omega); simpa using this)
      conv => lhs; unfold spl
      rw [if_neg h1, h2]
      simp [glue]
theorem splitK_spl (s : UInt8) : ∀ (n : Nat) (l : List UInt8), l.length ≤ n → Lib.splitK [s] 0 (Lib.count l [s]) l = spl s l
  | 0, l, h => by
    have : l = [] := List.eq_nil_of_length_eq_zero (by omega)
    subst this
    rfl
  | n + 1, l, h => by
    by_cases hi : Lib.indexByte l s = -1
    · have h1 : Lib.index l [s] = -1 := by rw [Lib.index_one]; exact hi
      rw [Lib.count_miss h1, spl_none (Lib.indexByte_none hi)]
      rfl
    · obtain ⟨i, hi2⟩ : ∃ i : Nat, Lib.indexByte l s = i := ⟨(Lib.indexByte l s).toNat, by have := Lib.indexByte_ge l s; omega⟩
      obtain ⟨h2, h3⟩ := Lib.indexByte_some hi2
      have h1 : Lib.index l [s] = i := by rw [Lib.index_one]; exact hi2
      have hlt : i < l.length := (List.getElem?_eq_some_iff.1 h2).1
      rw [Lib.count_hit (by simp) h1, Nat.add_comm, Lib.splitK, if_neg (by rw [h1, beq_iff_eq]; omega), h1]
      have hr := splitK_spl s n (l.drop (i + 1)) (by rw [List.length_drop]; omega)
      have e1 : ((i : Nat) : Int).toNat = i := by omega
      rw [e1, spl_at h2 h3]
      simp only [List.length_singleton, Nat.add_zero]
      rw [hr]
theorem strOf_back (x : ByteArray) : strOf x.data.toList = x := by
  apply ByteArray.ext
  simp [strOf]
theorem splitB_spl (s : UInt8) (l : List UInt8) : Lib.splitB (strOf [s]) 0 (Lib.countB (strOf l) (strOf [s])) (strOf l) = (spl s l).map strOf := by
  have h := Lib.splitB_data (strOf [s]) 0 (Lib.countB (strOf l) (strOf [s])) (strOf l)
  have h2 : Lib.splitK (strOf [s]).data.toList 0 (Lib.countB (strOf l) (strOf [s])) (strOf l).data.toList = spl s l := splitK_spl s l.length l (Nat.le_refl _)
  rw [h2] at h
  rw [← h, List.map_map]
  conv => lhs; rw [← List.map_id (Lib.splitB _ _ _ _)]
  refine List.map_congr_left fun x _ => ?_
  show x = strOf x.data.toList
  rw [strOf_back]
theorem count_len (s : UInt8) (n : Nat) (l : List UInt8) (h : l.length ≤ n) : Lib.count l [s] + 1 = (spl s l).length := by
  induction n generalizing l with
  | zero =>
    have : l = [] := List.eq_nil_of_length_eq_zero (by omega)
    subst this
    rfl
  | succ n ih =>
    by_cases hi : Lib.indexByte l s = -1
    · have h1 : Lib.index l [s] = -1 := by rw [Lib.index_one]; exact hi
      rw [Lib.count_miss h1, spl_none (Lib.indexByte_none hi)]
      rfl
    · obtain ⟨i, hi2⟩ : ∃ i : Nat, Lib.indexByte l s = i := ⟨(Lib.indexByte l s).toNat, by have := Lib.indexByte_ge l s; omega⟩
      obtain ⟨h2, h3⟩ := Lib.indexByte_some hi2
      have h1 : Lib.index l [s] = i := by rw [Lib.index_one]; exact hi2
      have hlt : i < l.length := (List.getElem?_eq_some_iff.1 h2).1
      have hr := ih (l.drop (i + 1)) (by rw [List.length_drop]; omega)
      have e : Lib.count (l.drop (i + [s].length)) [s] = Lib.count (l.drop (i + 1)) [s] := rfl
      rw [Lib.count_hit (by simp) h1, spl_at h2 h3, e, List.length_cons]
      omega
theorem split_one (s : UInt8) (l : List UInt8) (w : World) (hl : l.length < 4294967281) (hT : MaxT w) :
    Calls Tryz.prog 35 #[.string (strOf l), .string (strOf [s])] w fun e w' => e = .returned (.slice (some ⟨w.heap.size, 0, none⟩) (spl s l).length (spl s l).length) ∧
      Rd Kd.str (fun b => w.heap.size ≤ b) w' (some ⟨w.heap.size, 0, none⟩) (spl s l).length ((spl s l).map strOf) ∧ Below w.heap.size w w' := by
  obtain ⟨m, hm⟩ := hT
  refine (Tryz.strings_Split (strOf l) (strOf [s]) m w (by rw [strOf_size]; exact hl) hm (by rw [strOf_size]; simp)).mono ?_
  rintro e w' ⟨rfl, rfl⟩
  have hc : Lib.countB (strOf l) (strOf [s]) + 1 = (spl s l).length := count_len s l.length l (Nat.le_refl _)
  have hls := spl_len s l
  rw [hc, splitB_spl]
  refine ⟨rfl, ?_, (Below.refl _ _).alloc (Nat.le_refl _) _⟩
  have h := Rd.of_vals (enc := fun x => Value.string x) (h1 := fun _ => rfl) (S := fun b => w.heap.size ≤ b) (w := w.alloc (.cells (((spl s l).map strOf).map fun x => Value.string x).toArray 9)) (b := w.heap.size) (o := 0) (c := (spl s l).length) (l := (spl s l).map strOf) ByteArray.empty (by simp) (by omega) (fun _ => ⟨Nat.le_refl _, by simp⟩) (fun j hj => by
    rw [cell_of_row _ _ (0 + j) _ _ _ (heap_alloc_new w _)]
    simp at hj
    simp [hj])
  exact h
theorem getD_str (l : List ByteArray) {k : Nat} (h : k < l.length) : l.getD k ByteArray.empty = l[k] := by simp [h]
end Go.Proofs.Sat
