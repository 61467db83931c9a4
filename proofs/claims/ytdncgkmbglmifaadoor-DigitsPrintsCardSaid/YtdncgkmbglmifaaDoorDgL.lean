/- List of package digits. -/
import Derived.Test.YtdncgkmbglmifaaDoorDgK
set_option linter.unusedVariables false
set_option linter.unusedSimpArgs false
namespace Go.Proofs.Sat
open Go Go.RowKit
/-- make of no elements, with room. -/
theorem run_mk0' {P : Program} (w : World) {α : Type} (d : Kd α) {t e : TypeId} {z : Value} {size bytes : Nat} (I : ElemInfo P t e z size bytes) (hd : d.sz = size) (S : Nat → Prop) {base : Nat} (kl kc : IntKind) (C : Int) (n : Nat) (hC : C = n) (hb : bytes * n ≤ 281474976710656) (h63 : n ≤ 9223372036854775807) (hbase : base ≤ w.heap.size) :
    ∃ v' w', (Instr.makeSlice t (.int kl 0) (.int kc C)).run P w = .ok v' w' ∧ Own d e S w' base v' [] ∧ w.grownBy w' none ∧ v' = .slice (some ⟨w.heap.size, 0, none⟩) 0 n := by
  obtain ⟨i, hi, h2, h3, h4⟩ := info_parts I.hi
  subst hC hd
  obtain ⟨w', hr, ho, hg⟩ := run_make_own (P := P) w base t e i _ d.sz I.ht hi h2 h3 kl kc n (by rw [h4]; exact hb) (by simpa [maxLen] using h63) hbase
  exact ⟨_, w', hr, ⟨[], by simpa using ho, .nil⟩, hg, rfl⟩
theorem strOf_data (l : List UInt8) : (strOf l).data.toList = l := rfl
theorem join_own (xs : List ByteArray) (a : Option Addr) (c base : Nat) (w : World) (h : Own Kd.str 9 NoS w base (.slice a xs.length c) xs) (hn : xs.length ≤ 1000000) (hlen : (Lib.join (xs.map (·.data.toList)) [32]).length ≤ 140737488355328) :
    Calls Tryd.prog 31 #[.slice a xs.length c, .string { data := #[32] }] w fun e w' => e = .returned (.string (strOf (Lib.join (xs.map (·.data.toList)) [32]))) ∧ Below w.heap.size w w' := by
  cases hx : xs with
  | nil =>
    refine (Tryd.strings_Join_none a c { data := #[32] } w).mono ?_
    rintro e w' ⟨rfl, rfl⟩
    exact ⟨rfl, Below.refl _ _⟩
  | cons y r =>
    rw [← hx]
    have hR := h.rd'
    obtain ⟨bk, o, rfl, -, hlt, hc⟩ := hR.vals (by rw [hx]; simp) (ByteArray.empty)
    refine (Tryd.strings_Join bk o c xs { data := #[32] } w (fun j x hj => ?_) hlt (by omega) hR.1 hlen).mono ?_
    · have hjl := (List.getElem?_eq_some_iff.1 hj).1
      rw [hc j hjl, List.getD_eq_getElem?_getD, hj]
      rfl
    · rintro e w' ⟨rfl, hb⟩
      exact ⟨rfl, hb⟩
set_option maxRecDepth 20000 in
set_option maxHeartbeats 1000000 in
theorem digits_List (S : Nat → Prop) (a : Option Addr) (c : Nat) (l : List Int) (w : World) (hT : DigT w) (hR : Rd (Kd.int .i64) S w a c l) (hI : IntsOK l) (hl : l.length ≤ 1000000) :
    Calls Tryd.prog 16 #[.slice a l.length c] w fun e w' => e = .returned (.string (strOf (joinW l))) ∧ Below w.heap.size w w' := by
  have HI := Lib.hid hI
  have HR := Lib.hid hR
  have HT := Lib.hid hT
  obtain ⟨n, hn⟩ : ∃ n, n = l.length := ⟨_, rfl⟩
  have HN := Lib.hid hn
  rw [← hn] at hl
  rw [← hn]
  clear hn hI hR hT
  go_enter Tryd.func16, Tryd.ntmps16
  go_wp2_with (first
    | ((with_reducible refine gate_m 51 (.const (.int .i64 0)) (.tmp 7) rfl ?_); refine wpList_make_ev _ rfl (.const (.int .i64 0)) (.tmp 7) 51 rfl _ _ rfl rfl _ (run_mk0' _ Kd.str infoStr rfl NoS (base := w.heap.size) _ _ _ n rfl (by omega) (by omega) (Nat.le_refl _)) ?_; rintro v' w1 ⟨hG, hg, rfl⟩; have G1 := Lib.hid hG; have B1 := Lib.hid ((Below.refl w.heap.size w).grown hg (Nat.le_refl _) (fun k hk => by cases hk)); clear hG hg)
    | fail)
  go_loopw [3, 11] (fun v i wr => ∃ (k : Nat), k ≤ n ∧ i = .int .i64 k ∧ Hid (Own Kd.str 9 NoS wr w.heap.size v ((l.take k).map fun x => strOf (Lib.itoa x))) ∧ Hid (Below w.heap.size w wr)) (fun _ i _ => n - (intOf i).toNat)
  case atStart => exact ⟨0, by omega, rfl, by rw [List.take_zero]; exact G1.out, B1.out⟩
  case round =>
    obtain ⟨k, hk, rfl, O4, B4⟩ := hrel
    by_cases hlt : k < n
    · have HLT : Hid (k < l.length) := by show _ < _; rw [← HN.out]; exact hlt
      have hkl : (k : Int) < (n : Int) := by omega
      obtain ⟨b, o, rfl, -, -, hc⟩ := (HR.out.frame (Same.below B4.out)).vals (by have := HLT.out; omega) 0
      have d5 := hc k HLT.out
      rw [getD_at _ HLT.out] at d5
      have hx := HI.out _ (List.getElem_mem HLT.out)
      have HTK : Hid ((l.take (k + 1)).map (fun x => strOf (Lib.itoa x)) = (l.take k).map (fun x => strOf (Lib.itoa x)) ++ [strOf (Lib.itoa (l[k]'HLT.out))]) := by show _ = _; rw [List.take_succ_eq_append_getElem HLT.out, List.map_append]; rfl
      have hXl : ((l.take k).map fun x => strOf (Lib.itoa x)).length ≤ 1000000 := by rw [List.length_map, List.length_take]; omega
      have CI := Lib.hid (fun W hW => digits_Int (l[k]'HLT.out) W hx.1 hx.2 hW)
      generalize l[k]'HLT.out = x at *
      generalize (l.take k).map (fun x => strOf (Lib.itoa x)) = X at *
      generalize strOf (Lib.itoa x) = it at *
      have HT4 := Lib.hid (HT.out.below B4.out)
      clear hc hx
      obtain ⟨a4, c4, rfl⟩ := O4.out.form
      obtain ⟨W4, hW4⟩ : ∃ W4, W4 = wr := ⟨_, rfl⟩
      subst hW4
      go_wp2_with (first
        | (go_at_call 23; refine (CI.out _ HT4.out).mono ?_; rintro e w5 ⟨rfl, b5⟩; have O5 := Lib.hid (O4.out.below b5); have B5 := Lib.hid (below_then B4.out B4.out.size b5); clear b5)
        | (at_builtin; refine wpList_append_ev _ rfl _ _ 51 rfl _ _ rfl rfl _ (run_app1 w5 infoStr rfl _ O5.out 9 [.string it] it rfl (by omega) (by omega) B5.out.size) ?_; rintro n2 w6 ⟨ow2, g2, v2, _⟩; have B6 := Lib.hid (B5.out.grown g2 B5.out.size (fun k hk => (O5.out.lt k hk).1)); have O6 := Lib.hid ow2; clear ow2 g2 v2)
        | fail)
      go_roundw
      case rel => exact ⟨k + 1, by omega, by go_num, by rw [HTK.out]; exact O6.out, B6.out⟩
      case measure => simp [intOf]; omega
    · have hnl : ¬ ((k : Int) < (n : Int)) := by omega
      have h5 := O4.out
      rw [show l.take k = l from List.take_of_length_le (by have := HN.out; omega)] at h5
      have HJ : Hid (Lib.join ((l.map fun x => strOf (Lib.itoa x)).map (·.data.toList)) [32] = joinW l) := by
        show _ = _
        rw [List.map_map]
        rfl
      have HXL : Hid ((l.map fun x => strOf (Lib.itoa x)).length = n) := by show _ = _; rw [List.length_map, HN.out]
      have hjl := joinW_len HI.out
      rw [← HN.out, ← HJ.out] at hjl
      generalize (l.map fun x => strOf (Lib.itoa x)) = X at *
      obtain ⟨a4, c4, rfl⟩ := h5.form
      have CJ := Lib.hid (join_own X a4 c4 _ wr h5 (by rw [HXL.out]; exact hl) (by omega))
      rw [HXL.out, HJ.out] at CJ
      rw [HXL.out]
      clear hlt hk O4 h5 hjl
      go_wp2_with fail
      refine CJ.out.mono ?_
      rintro e w6 ⟨rfl, b6⟩
      have B6 := Lib.hid (below_then B4.out B4.out.size b6)
      clear b6
      go_wp2_with fail
      go_ret
      exact ⟨rfl, B6.out⟩
end Go.Proofs.Sat
