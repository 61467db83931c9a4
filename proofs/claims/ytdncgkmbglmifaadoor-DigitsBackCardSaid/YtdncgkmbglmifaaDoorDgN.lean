/- strings.Split at a separator of one byte; ParseList of package digits. -/
import Derived.Test.YtdncgkmbglmifaaDoorDgL
import Derived.Test.YtdncgkmbglmifaaDoorDgM
import Derived.Lib.IndexBytes
import Derived.Lib.IndexLaws
import Derived.Lib.Split
set_option linter.unusedVariables false
set_option linter.unusedSimpArgs false
namespace Go.Proofs.Sat
open Go Go.RowKit
theorem spl_none {s : UInt8} {l : List UInt8} (h : ∀ k : Nat, l[k]? ≠ some s) : spl s l = [l] := by
  induction l with
  | nil => rfl
  | cons c r ih =>
    have h1 : c ≠ s := fun e => h 0 (by simp [e])
    have h2 := ih (fun k hk => h (k + 1) (by simpa using hk))
    unfold spl
    rw [if_neg h1, h2]
    simp [glue]
theorem spl_at {s : UInt8} {l : List UInt8} {i : Nat} (h : l[i]? = some s) (hb : ∀ k : Nat, k < i → l[k]? ≠ some s) : spl s l = l.take i :: spl s (l.drop (i + 1)) := by
  induction l generalizing i with
  | nil => cases h
  | cons c r ih =>
    cases i with
    | zero =>
      simp at h
      conv => lhs; unfold spl
      rw [if_pos h]
      simp
    | succ i =>
      have h1 : c ≠ s := fun e => hb 0 (by omega) (by simp [e])
      have h2 := ih (i := i) (by simpa using h) (fun k hk => by have := hb (k + 1) (by omega); simpa using this)
      conv => lhs; unfold spl
      rw [if_neg h1, h2]
      simp [glue]
theorem splitK_spl (s : UInt8) : ∀ (n : Nat) (l : List UInt8), l.length ≤ n → Lib.splitK [s] 0 (Lib.count l [s]) l = spl s l
  | 0, l, h => by
    have : l = [] := List.eq_nil_of_length_eq_zero (by omega)
    subst this
    rfl
  | n + 1, l, h => by
    by_cases hi : Lib.indexByte l s = -1
    · have h1 : Lib.index l [s] = -1 := by rw [Lib.index_one]; exact hi
      rw [Lib.count_miss h1, spl_none (Lib.indexByte_none hi)]
      rfl
    · obtain ⟨i, hi2⟩ : ∃ i : Nat, Lib.indexByte l s = i := ⟨(Lib.indexByte l s).toNat, by have := Lib.indexByte_ge l s; omega⟩
      obtain ⟨h2, h3⟩ := Lib.indexByte_some hi2
      have h1 : Lib.index l [s] = i := by rw [Lib.index_one]; exact hi2
      have hlt : i < l.length := (List.getElem?_eq_some_iff.1 h2).1
      rw [Lib.count_hit (by simp) h1, Nat.add_comm, Lib.splitK, if_neg (by rw [h1, beq_iff_eq]; omega), h1]
      have hr := splitK_spl s n (l.drop (i + 1)) (by rw [List.length_drop]; omega)
      have e1 : ((i : Nat) : Int).toNat = i := by omega
      rw [e1, spl_at h2 h3]
      simp only [List.length_singleton, Nat.add_zero]
      rw [hr]
theorem strOf_back (x : ByteArray) : strOf x.data.toList = x := by
  apply ByteArray.ext
  simp [strOf]
theorem splitB_spl (s : UInt8) (l : List UInt8) : Lib.splitB (strOf [s]) 0 (Lib.countB (strOf l) (strOf [s])) (strOf l) = (spl s l).map strOf := by
  have h := Lib.splitB_data (strOf [s]) 0 (Lib.countB (strOf l) (strOf [s])) (strOf l)
  have h2 : Lib.splitK (strOf [s]).data.toList 0 (Lib.countB (strOf l) (strOf [s])) (strOf l).data.toList = spl s l := splitK_spl s l.length l (Nat.le_refl _)
  rw [h2] at h
  rw [← h, List.map_map]
  conv => lhs; rw [← List.map_id (Lib.splitB _ _ _ _)]
  refine List.map_congr_left fun x _ => ?_
  show x = strOf x.data.toList
  rw [strOf_back]
theorem count_len (s : UInt8) (n : Nat) (l : List UInt8) (h : l.length ≤ n) : Lib.count l [s] + 1 = (spl s l).length := by
  induction n generalizing l with
  | zero =>
    have : l = [] := List.eq_nil_of_length_eq_zero (by omega)
    subst this
    rfl
  | succ n ih =>
    by_cases hi : Lib.indexByte l s = -1
    · have h1 : Lib.index l [s] = -1 := by rw [Lib.index_one]; exact hi
      rw [Lib.count_miss h1, spl_none (Lib.indexByte_none hi)]
      rfl
    · obtain ⟨i, hi2⟩ : ∃ i : Nat, Lib.indexByte l s = i := ⟨(Lib.indexByte l s).toNat, by have := Lib.indexByte_ge l s; omega⟩
      obtain ⟨h2, h3⟩ := Lib.indexByte_some hi2
      have h1 : Lib.index l [s] = i := by rw [Lib.index_one]; exact hi2
      have hlt : i < l.length := (List.getElem?_eq_some_iff.1 h2).1
      have hr := ih (l.drop (i + 1)) (by rw [List.length_drop]; omega)
      have e : Lib.count (l.drop (i + [s].length)) [s] = Lib.count (l.drop (i + 1)) [s] := rfl
      rw [Lib.count_hit (by simp) h1, spl_at h2 h3, e, List.length_cons]
      omega
theorem split_one (s : UInt8) (l : List UInt8) (w : World) (hl : l.length < 4294967281) (hT : MaxT w) :
    Calls Tryd.prog 30 #[.string (strOf l), .string (strOf [s])] w fun e w' => e = .returned (.slice (some ⟨w.heap.size, 0, none⟩) (spl s l).length (spl s l).length) ∧
      Rd Kd.str (fun b => w.heap.size ≤ b) w' (some ⟨w.heap.size, 0, none⟩) (spl s l).length ((spl s l).map strOf) ∧ Below w.heap.size w w' := by
  obtain ⟨m, hm⟩ := hT
  refine (Tryd.strings_Split (strOf l) (strOf [s]) m w (by rw [strOf_size]; exact hl) hm (by rw [strOf_size]; simp)).mono ?_
  rintro e w' ⟨rfl, rfl⟩
  have hc : Lib.countB (strOf l) (strOf [s]) + 1 = (spl s l).length := count_len s l.length l (Nat.le_refl _)
  have hls := spl_len s l
  rw [hc, splitB_spl]
  refine ⟨rfl, ?_, (Below.refl _ _).alloc (Nat.le_refl _) _⟩
  have h := Rd.of_vals (enc := fun x => Value.string x) (h1 := fun _ => rfl) (S := fun b => w.heap.size ≤ b) (w := w.alloc (.cells (((spl s l).map strOf).map fun x => Value.string x).toArray 9)) (b := w.heap.size) (o := 0) (c := (spl s l).length) (l := (spl s l).map strOf) ByteArray.empty (by simp) (by omega) (fun _ => ⟨Nat.le_refl _, by simp⟩) (fun j hj => by
    rw [cell_of_row _ _ (0 + j) _ _ _ (heap_alloc_new w _)]
    simp at hj
    simp [hj])
  exact h
theorem getD_str (l : List ByteArray) {k : Nat} (h : k < l.length) : l.getD k ByteArray.empty = l[k] := by simp [h]
set_option maxRecDepth 20000 in
set_option maxHeartbeats 2000000 in
theorem digits_ParseList (l : List UInt8) (w : World) (hl : l.length ≤ 1000000000) (hT : DigT w) : Calls Tryd.prog 14 #[.string (strOf l)] w fun e w' => ∃ v, e = .returned (.tuple #[v, .int .i64 (plErr l)]) ∧ Own (Kd.int .i64) 3 NoS w' w.heap.size v (plV l) ∧ Below w.heap.size w w' := by
  have hts := toList_strOf l
  go_enter Tryd.func14, Tryd.ntmps14
  by_cases hne : l = []
  · subst hne
    go_wp2_with fail
    go_ret2
    exact ⟨_, rfl, Own.nil _ _ _ _ _, Below.refl _ _⟩
  have t0 : (l == []) = false := by rw [beq_eq_false_iff_ne]; exact hne
  have CS := Lib.hid (split_one 32 l w (by omega) hT.maxl)
  have HNE := Lib.hid hne
  have HT := Lib.hid hT
  obtain ⟨n, hn⟩ : ∃ n, n = (spl 32 l).length := ⟨_, rfl⟩
  have hnl : n ≤ 1000000001 := by have := spl_len 32 l; omega
  have hpl : ∀ p ∈ spl 32 l, p.length ≤ l.length := by
    have key : ∀ r : List UInt8, ∀ p ∈ spl 32 r, p.length ≤ r.length := by
      intro r
      induction r with
      | nil => intro p hp; simp [spl] at hp; subst hp; simp
      | cons c r ih =>
        intro p hp
        unfold spl at hp
        split at hp
        · rcases List.mem_cons.1 hp with rfl | hp
          · simp
          · have := ih p hp; simp; omega
        · cases hs : spl 32 r with
          | nil => exact absurd hs (spl_ne _ _)
          | cons a b =>
            rw [hs] at hp ih
            simp only [glue] at hp
            rcases List.mem_cons.1 hp with rfl | hp
            · have := ih a (by simp); simp; omega
            · have := ih p (by simp [hp]); simp; omega
    exact key l
  have HPL := Lib.hid hpl
  rw [← hn] at CS
  have HN := Lib.hid hn
  have HL := Lib.hid hl
  clear hn hne hT hpl hl
  go_wp2_with (first
    | (go_at_call 30; refine CS.out.mono ?_; rintro e w1 ⟨rfl, r1, b1⟩; have R1 := Lib.hid r1; have B1 := Lib.hid b1; have HT1 := Lib.hid (HT.out.below b1); clear r1 b1)
    | fail)
  clear t0 CS HT
  go_loopw [4, 14] (fun v i wr => ∃ (k : Nat), k ≤ n ∧ i = .int .i64 k ∧ Hid (∀ q ∈ (spl 32 l).take k, pinE q = 0) ∧ Hid (Own (Kd.int .i64) 3 NoS wr w1.heap.size v (((spl 32 l).take k).map pinV)) ∧ Hid (Below w1.heap.size w1 wr)) (fun _ i _ => n - (intOf i).toNat)
  case atStart => exact ⟨0, by omega, rfl, fun q hq => (by simp at hq), by rw [List.take_zero]; exact Own.nil _ _ _ _ _, by first | exact Below.refl _ _ | exact (Drawn.of _ _).below _⟩
  case round =>
    obtain ⟨k, hk, rfl, HDN, O4, B4⟩ := hrel
    by_cases hlt : k < n
    · have HLT : Hid (k < (spl 32 l).length) := by show _ < _; rw [← HN.out]; exact hlt
      have hkl : (k : Int) < (n : Int) := by omega
      have hkm : k < ((spl 32 l).map strOf).length := by rw [List.length_map]; exact HLT.out
      obtain ⟨b, o, hbo, -, -, hc⟩ := (R1.out.frame (Same.below B4.out)).vals (by omega) ByteArray.empty
      cases hbo
      have d5 := hc k hkm
      rw [getD_str _ hkm, List.getElem_map, Nat.zero_add] at d5
      have hpk := HPL.out _ (List.getElem_mem HLT.out)
      have CP := Lib.hid (fun W hW => digits_ParseInt ((spl 32 l)[k]'HLT.out) W (by have := HL.out; omega) hW)
      have HT4 := Lib.hid (HT1.out.below B4.out)
      have HTK : Hid ((spl 32 l).take (k + 1) = (spl 32 l).take k ++ [(spl 32 l)[k]'HLT.out]) := List.take_succ_eq_append_getElem HLT.out
      have HSP : Hid (spl 32 l = (spl 32 l).take k ++ (spl 32 l)[k]'HLT.out :: (spl 32 l).drop (k + 1)) := by
        show _ = _
        conv => lhs; rw [← List.take_append_drop k (spl 32 l), List.drop_eq_getElem_cons HLT.out]
      generalize (spl 32 l)[k]'HLT.out = p at *
      clear hc hkm hpk
      by_cases he : pinE p = 0
      · have t5 : (pinE p != 0) = false := by rw [he]; rfl
        rw [he] at CP t5
        have HDN2 : Hid (∀ q ∈ (spl 32 l).take (k + 1), pinE q = 0) := fun q hq => by
          rw [HTK.out] at hq
          rcases List.mem_append.1 hq with hq | hq
          · exact HDN.out q hq
          · rw [List.mem_singleton.1 hq]; exact he
        have HMP : Hid (((spl 32 l).take (k + 1)).map pinV = ((spl 32 l).take k).map pinV ++ [pinV p]) := by show _ = _; rw [HTK.out, List.map_append]; rfl
        have hXl : (((spl 32 l).take k).map pinV).length ≤ 1000000001 := by rw [List.length_map, List.length_take]; omega
        generalize ((spl 32 l).take k).map pinV = X at *
        generalize pinV p = pv at *
        clear he HDN
        obtain ⟨a4, c4, rfl⟩ := O4.out.form
        obtain ⟨W4, hW4⟩ : ∃ W4, W4 = wr := ⟨_, rfl⟩
        subst hW4
        go_wp2_with (first
          | (go_at_call 12; refine (CP.out _ HT4.out).mono ?_; rintro e w5 ⟨rfl, b5⟩; have O5 := Lib.hid (O4.out.below b5); have B5 := Lib.hid (below_then B4.out B4.out.size b5); clear b5)
          | (at_builtin; refine wpList_append_ev _ rfl _ _ 30 rfl _ _ rfl rfl _ (run_app1 w5 infoInt rfl _ O5.out 3 [.int .i64 pv] pv rfl (by omega) (by omega) B5.out.size) ?_; rintro n2 w6 ⟨ow2, g2, v2, _⟩; have B6 := Lib.hid (B5.out.grown g2 B5.out.size (fun k hk => (O5.out.lt k hk).1)); have O6 := Lib.hid ow2; clear ow2 g2 v2)
          | fail)
        go_roundw
        case rel => exact ⟨k + 1, by omega, by go_num, HDN2.out, by rw [HMP.out]; exact O6.out, B6.out⟩
        case measure => simp [intOf]; omega
      · have t5 : (pinE p != 0) = true := by rw [bne_iff_ne]; exact he
        have HE := Lib.hid (plV_bad HNE.out HDN.out HSP.out he)
        generalize pinE p = pe at *
        clear he HDN
        go_wp2_with (first
          | (go_at_call 12; refine (CP.out _ HT4.out).mono ?_; rintro e w5 ⟨rfl, b5⟩; have B5 := Lib.hid (below_both B1.out (below_then B4.out B4.out.size b5)); clear b5)
          | fail)
        go_ret2
        exact ⟨_, by rw [HE.out.1]; rfl, by rw [HE.out.2]; exact Own.nil _ _ _ _ _, B5.out⟩
    · have hnl : ¬ ((k : Int) < (n : Int)) := by omega
      have hk2 : (spl 32 l).take k = spl 32 l := List.take_of_length_le (by have := HN.out; omega)
      rw [hk2] at HDN O4
      have HE := Lib.hid (plV_good HNE.out HDN.out rfl)
      clear hlt hk hk2
      go_wp2_with fail
      go_ret2
      exact ⟨_, by rw [HE.out.1]; rfl, by rw [HE.out.2]; exact O4.out.mono (fun _ _ h => h) B1.out.size, below_both B1.out B4.out⟩
end Go.Proofs.Sat
