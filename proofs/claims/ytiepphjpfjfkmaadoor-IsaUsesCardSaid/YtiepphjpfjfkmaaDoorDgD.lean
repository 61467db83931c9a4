/- strconv.FormatUint, base 16. -/
import Derived.Test.YtiepphjpfjfkmaaDoorDgC
import Derived.Lib.SlBuf
set_option linter.unusedVariables false
set_option linter.unusedSimpArgs false
namespace Go.Proofs.Sat
open Go Go.RowKit Go.Sort Go.Lib
/-- The one place of the table of math/bits that is read. -/
abbrev DebT (w : World) : Prop := w.cell? ⟨8, 15, none⟩ = some (.int .u8 4)
theorem isPow16 (w : World) : Calls Tryd.prog 93 #[.int .i64 16] w fun e w' => e = .returned (.bool true) ∧ Drawn w w' := by
  have hb : bits .and .i64 16 15 = 0 := by decide
  go_enter Tryd.func93, Tryd.ntmps93
  go_wp2_with fail
  go_ret
  exact ⟨rfl, Drawn.refl _⟩
theorem tz64 (w : World) (h : DebT w) : Calls Tryd.prog 98 #[.int .u64 16] w fun e w' => e = .returned (.int .i64 4) ∧ Drawn w w' := by
  have hb : bits .and .u64 16 18446744073709551600 = 16 := by decide
  have hw1 : IntKind.u64.wrap (-16) = 18446744073709551600 := by decide
  have hw2 : IntKind.u64.wrap 4573923408821661840 = 4573923408821661840 := by decide
  go_enter Tryd.func98, Tryd.ntmps98
  go_wp2_with fail
  go_ret
  exact ⟨rfl, Drawn.refl _⟩
theorem tz (w : World) (h : DebT w) : Calls Tryd.prog 94 #[.int .u64 16] w fun e w' => e = .returned (.int .i64 4) ∧ Drawn w w' := by
  have C := Lib.hid (tz64 w h)
  clear h
  go_enter Tryd.func94, Tryd.ntmps94
  go_wp2_with fail
  refine C.out.mono ?_
  rintro e w1 ⟨rfl, d1⟩
  have D1 := Lib.hid d1
  clear d1
  go_wp2_with fail
  go_ret
  exact ⟨rfl, D1.out⟩
abbrev abcS : ByteArray := { data := #[48, 49, 50, 51, 52, 53, 54, 55, 56, 57, 97, 98, 99, 100, 101, 102, 103, 104, 105, 106, 107, 108, 109, 110, 111, 112, 113, 114, 115, 116, 117, 118, 119, 120, 121, 122] }
theorem abc_at {d : Nat} (h : d < 16) (W : World) : (Instr.index 9 (.string abcS) (.int .u64 (d : Int))).run Tryd.prog W = .ok (.int .u8 ((digC d).toNat : Int)) W := by
  have hi : (0 : Int) ≤ (d : Int) ∧ (d : Int) < (abcS.size : Int) := by show _ ∧ _ < (36 : Int); omega
  rw [run_index_string W 9 _ _ _ Tryd.underlying9, dif_pos hi]
  rcases (show d = 0 ∨ d = 1 ∨ d = 2 ∨ d = 3 ∨ d = 4 ∨ d = 5 ∨ d = 6 ∨ d = 7 ∨ d = 8 ∨ d = 9 ∨ d = 10 ∨ d = 11 ∨ d = 12 ∨ d = 13 ∨ d = 14 ∨ d = 15 by omega) with rfl | rfl | rfl | rfl | rfl | rfl | rfl | rfl | rfl | rfl | rfl | rfl | rfl | rfl | rfl | rfl <;> rfl
theorem and15 (n : Nat) : bits .and .u64 (n : Int) 15 = ((n % 16 : Nat) : Int) := by
  unfold bits
  show IntKind.u64.wrap (((BitVec.ofInt 64 (n : Int)) &&& (BitVec.ofInt 64 15)).toNat : Int) = _
  rw [BitVec.toNat_and]
  have h1 : (BitVec.ofInt 64 (n : Int)).toNat = n % 2 ^ 64 := by simp
  have h2 : (BitVec.ofInt 64 15).toNat = 15 := rfl
  rw [h1, h2, show (15 : Nat) = 2 ^ 4 - 1 from rfl, Nat.and_two_pow_sub_one_eq_mod, IntKind.wrap_u64]
  omega
/-- Bytes under way: i zeros, then the digits. -/
abbrev cellsD (i : Nat) (l : List UInt8) : Array Value := ((List.replicate i (0 : UInt8) ++ l).map fun b => Value.int .u8 (b.toNat : Int)).toArray
theorem cellsD_zero {i : Nat} {l : List UInt8} {k : Nat} (h : k < i) : (cellsD i l)[k]? = some (.int .u8 0) := by
  simp [cellsD, List.getElem?_append, h, List.getElem?_replicate]
theorem cellsD_at {i : Nat} {l : List UInt8} {k : Nat} (h : k < l.length) : (cellsD i l)[i + k]? = some (.int .u8 (l[k].toNat : Int)) := by
  simp [cellsD, List.getElem?_append, h]
theorem cellsD_set (i : Nat) (l : List UInt8) (c : UInt8) : (cellsD (i + 1) l).setIfInBounds i (.int .u8 (c.toNat : Int)) = cellsD i (c :: l) := by
  unfold cellsD
  rw [List.replicate_succ', List.append_assoc, List.map_append, List.map_append, List.map_append, ← Array.toList_inj]
  simp [List.set_append]
theorem dig_at {w : World} {g i : Nat} {l : List UInt8} {t : TypeId} (hg : w.heap[g]? = some (.cells (cellsD (i + 1) l) t (0, 0))) :
    w.cell? ⟨g, i, none⟩ = some (.int .u8 0) ∧ w.frozen? ⟨g, i, none⟩ = false ∧ ∀ c : UInt8, (w.setCell ⟨g, i, none⟩ (.int .u8 (c.toNat : Int))).heap[g]? = some (.cells (cellsD i (c :: l)) t (0, 0)) := by
  refine ⟨?_, frozen_of_block hg, fun c => ?_⟩
  · rw [cell_of_row _ _ i _ _ _ hg, cellsD_zero (by omega)]
  · rw [← cellsD_set i l c]
    simp [World.setCell, Array.getElem?_modify, hg]
set_option maxRecDepth 20000 in
set_option maxHeartbeats 1000000 in
theorem inner_bits16 (x : Nat) (w : World) (hx : x < 18446744073709551616) (hT : DebT w) : Calls Tryd.prog 81 #[.slice none 0 0, .int .u64 (x : Int), .int .i64 16, .bool false, .bool false] w fun e w' => e = .returned (.tuple #[.slice none 0 0, .string (strOf (wrL 16 x))]) ∧ Below w.heap.size w w' := by
  have hlen := wr_len64 (b := 16) (by omega) hx
  obtain ⟨a, ha⟩ : ∃ a : Int, a = (x : Int) := ⟨_, rfl⟩
  rw [← ha]
  have HA := Lib.hid ha
  have HX := Lib.hid hx
  have HT := Lib.hid hT
  have HLEN := Lib.hid hlen
  have CP := Lib.hid (isPow16)
  have CZ := Lib.hid (tz)
  have hg0 : (w.alloc (.cells Tryd.zeroCells131 131)).heap[w.heap.size]? = some (.cells (cellsD 65 []) 131 (0, 0)) := by
    have hz : Tryd.zeroCells131 = cellsD 65 [] := by rfl
    rw [hz]
    show ((w.heap.push _)[w.heap.size]?) = _
    simp
  have HG0 := Lib.hid hg0
  have B0 : Hid (Below w.heap.size w (w.alloc (.cells Tryd.zeroCells131 131))) := (Below.refl _ _).alloc (Nat.le_refl _) _
  have HT0 : Hid (DebT (w.alloc (.cells Tryd.zeroCells131 131))) := by
    have h := hT
    unfold DebT at h
    exact Lib.Below.cellOf B0.out h (Nat.le_refl _)
  clear ha hx hlen hT hg0 HT
  go_enter Tryd.func81, Tryd.ntmps81
  go_wp2_with fail
  generalize (w.alloc (Obj.cells Tryd.zeroCells131 131)) = w0 at *
  refine (CP.out _).mono ?_
  rintro e w1 ⟨rfl, d1⟩
  have HG1 := Lib.hid (d1.heap HG0.out)
  have B1 := Lib.hid (B0.out.trans (d1.below _))
  have HT1 := Lib.hid (d1.cell HT0.out)
  clear CP HG0 B0 HT0 d1
  go_wp2_with fail
  refine (CZ.out _ HT1.out).mono ?_
  rintro e w2 ⟨rfl, d2⟩
  have HG2 := Lib.hid (d2.heap HG1.out)
  have B2 := Lib.hid (B1.out.trans (d2.below _))
  clear CZ HG1 B1 HT1 d2
  go_wp2_with fail
  go_loopw [1, 13] (fun us is wr => ∃ (y : Nat) (c : Int) (i : Nat) (l : List UInt8), us = .int .u64 c ∧ is = .int .i64 ((i + 1 : Nat) : Int) ∧ i < 65 ∧ Hid (c = (y : Int)) ∧ Hid (y ≤ x) ∧ Hid (i + 1 + l.length = 65) ∧ Hid (wrL 16 y ++ l = wrL 16 x) ∧ Hid (wr.heap[w.heap.size]? = some (.cells (cellsD (i + 1) l) 131 (0, 0))) ∧ Hid (Below w.heap.size w wr)) (fun us _ _ => (RowKit.intOf us).toNat)
  case atStart => exact ⟨x, a, 64, [], rfl, rfl, by omega, HA.out, Nat.le_refl _, rfl, List.append_nil _, HG2.out, B2.out⟩
  case round =>
    obtain ⟨y, c, i, l, rfl, rfl, hi, HC, HY, HI, HL, HG, HB⟩ := hrel
    by_cases h16 : 16 ≤ c
    · have t0 : decide (16 ≤ c) = true := decide_eq_true h16
      have h1 := HC.out
      have hy16 : 16 ≤ y := by omega
      obtain ⟨q, hq⟩ : ∃ q : Nat, q = y / 16 := ⟨_, rfl⟩
      obtain ⟨e, he⟩ : ∃ e : Nat, e = y % 16 := ⟨_, rfl⟩
      obtain ⟨c2, hc2⟩ : ∃ c2 : Int, c2 = (q : Int) := ⟨_, rfl⟩
      have hand : bits .and .u64 c 15 = (e : Int) := by rw [h1, and15, he]
      have hshr : c / 16 = c2 := by omega
      have he16 : e < 16 := by omega
      have hix := abc_at he16
      have HL2 : Hid (wrL 16 q ++ (digC e :: l) = wrL 16 x) := by
        show _ = _
        rw [← HL.out, wrL_big (b := 16) (x := y) (by omega) hy16, hq, he, List.append_assoc]; rfl
      have hw1 : 1 ≤ (wrL 16 q).length := by
        unfold wrL
        split <;> simp
      have hi1 : 1 ≤ i := by
        have h2 := congrArg List.length HL2.out
        rw [List.length_append, List.length_cons] at h2
        have := HLEN.out; have := HI.out
        omega
      obtain ⟨j, rfl⟩ : ∃ j, i = j + 1 := ⟨i - 1, by omega⟩
      have hwi : IntKind.i64.wrap (((j + 1 + 1 : Nat) : Int) - 1) = ((j + 1 : Nat) : Int) := by rw [IntWalk.i64_in _ (by omega)]; omega
      obtain ⟨e1, e2, e3⟩ := dig_at HG.out
      have E3 := Lib.hid (e3 (digC e))
      have hmeas : c2.toNat < c.toNat := by omega
      have HYQ : Hid (q ≤ x) := by show _ ≤ _; have := HY.out; omega
      have HC2 := Lib.hid hc2
      have HI2 : Hid (j + 1 + (digC e :: l).length = 65) := by show _ = _; rw [List.length_cons]; have := HI.out; omega
      clear h1 hy16 hq he hc2 h16 e3 hw1 hi1
      go_wp2_with fail
      go_roundw
      case rel => exact ⟨q, c2, j, digC e :: l, rfl, rfl, by omega, HC2.out, HYQ.out, HI2.out, HL2.out, E3.out, HB.out.setCell (Nat.le_refl _) _⟩
      case measure => simp [RowKit.intOf]; omega
    · have t0 : decide (16 ≤ c) = false := decide_eq_false h16
      have h1 := HC.out
      have hy16 : y < 16 := by omega
      have hix := abc_at hy16
      have HL2 : Hid (digC y :: l = wrL 16 x) := by
        show _ = _
        rw [← HL.out, wrL_small hy16]; rfl
      have hwi : IntKind.i64.wrap (((i + 1 : Nat) : Int) - 1) = (i : Int) := by rw [IntWalk.i64_in _ (by omega)]; omega
      obtain ⟨e1, e2, e3⟩ := dig_at HG.out
      have E3 := Lib.hid (e3 (digC y))
      have HI2 : Hid (i + (digC y :: l).length = 65) := by show _ = _; rw [List.length_cons]; have := HI.out; omega
      have hal : Tryd.prog.arrayLen 131 = 65 := by simp [Program.arrayLen, Tryd.underlying131]
      have hsl : ∀ W, (Instr.sliceAt 131 (.pointer (some ⟨w.heap.size, 0, none⟩)) (some (.int .i64 (i : Int))) none none).run Tryd.prog W = .ok (.slice (some ⟨w.heap.size, i, none⟩) (digC y :: l).length (65 - i)) W := fun W => by
        rw [run_sliceAt_array_l W 131 ⟨w.heap.size, 0, none⟩ (by simp [Program.arrayLen, Program.elem, Tryd.underlying131]) .i64 (i : Int) (by omega) (by rw [hal]; omega)]
        have h2 := HI2.out
        rw [show (digC y :: l).length = 65 - i by omega]
        have h5 : ¬ (65 = i) := by omega
        have he : Tryd.prog.elem 131 = 5 := by simp [Program.elem, Tryd.underlying131]
        have hs : (sizeOf 5).run Tryd.prog W = .ok 1 W := by go_simp
        rw [he, hs, hal]
        simp [Addr.add, slicedAt, h5, Result.andThen]
        intro h6
        rw [h6]
      have hcv : ∀ W, W.heap[w.heap.size]? = some (.cells (cellsD i (digC y :: l)) 131 (0, 0)) → (convert 33 9 (.slice (some ⟨w.heap.size, i, none⟩) (digC y :: l).length (65 - i))).run Tryd.prog W = .ok (.string (strOf (digC y :: l))) W := fun W hW => by
        refine run_convert_bytes_back (P := Tryd.prog) W 33 9 5 ⟨w.heap.size, i, none⟩ (65 - i) (digC y :: l) Tryd.underlying33 Tryd.underlying5 Tryd.underlying9 (fun j hj => ?_)
        rw [Lib.add_plain, cell_of_row _ _ (i + j) _ _ _ hW, cellsD_at hj]
      have hcv1 := hcv _ E3.out
      have HCa : Hid ((c : Int) = (y : Int)) := HC.out
      obtain rfl : c = (y : Int) := HC.out
      generalize hmm : digC y :: l = m at *
      clear h1 hy16 h16 e3 hcv hal
      go_wp2_with fail
      go_ret2
      exact ⟨by show Ending.returned (.tuple #[.slice none 0 0, .string (strOf m)]) = _; rw [HL2.out], HB.out.setCell (Nat.le_refl _) _⟩
end Go.Proofs.Sat
