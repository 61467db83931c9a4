/- For RefineCorners: the walk of ref53.Corners, and of the law. -/
import Derived.Test.YtkomfeeimdlokaaDoorRkE
set_option linter.unusedVariables false
set_option linter.unusedSimpArgs false
namespace Go.Proofs.Sat
open Go Go.RowKit
abbrev cellsN : Array Value := #[.string { data := #[97] }, .string { data := #[98] }, .string { data := #[99] }, .string { data := #[100] }, .string { data := #[101] }, .string { data := #[102] }, .string { data := #[103] }, .string { data := #[104] }]
theorem name_at {w : World} {g : Nat} {t : TypeId} {fr : Nat × Nat} (h : w.heap[g]? = some (.cells cellsN t fr)) {k : Nat} (hk : k < 8) : ∃ nm, w.cell? ⟨g, k, none⟩ = some (.string nm) := by
  rcases (show k = 0 ∨ k = 1 ∨ k = 2 ∨ k = 3 ∨ k = 4 ∨ k = 5 ∨ k = 6 ∨ k = 7 by omega) with rfl | rfl | rfl | rfl | rfl | rfl | rfl | rfl
  all_goals exact ⟨_, by rw [cell_of_row _ _ _ _ _ _ h]; rfl⟩
set_option maxRecDepth 20000 in
set_option maxHeartbeats 4000000 in
theorem ref53_Corners (W N many : Int) (s : Nat) (w : World) (hs : s < 18446744073709551616) :
    Calls Tryd.prog 11 #[.int .i64 W, .int .i64 N, .int .i64 many, .int .u64 (s : Int)] w fun e w' => ∃ v, e = .returned v ∧ Own (Kd.slice (Kd.int .u64)) 25 (fun b => w.heap.size ≤ b) w' w.heap.size v (crnL W N many s) ∧ Below w.heap.size w w' := by
  obtain ⟨R, hR⟩ : ∃ R, R = numE N := ⟨_, rfl⟩
  have hRN : min (max N 0) 8 = (R : Int) := by rw [hR]; unfold numE; omega
  have hR8 : R ≤ 8 := by rw [hR]; exact numE_le N
  have HRE := Lib.hid hR
  obtain ⟨n, hn⟩ : ∃ n, n = widE W := ⟨_, rfl⟩
  have hWn : min (max W 1) 64 = (n : Int) := by rw [hn]; unfold widE; omega
  have hn1 : 1 ≤ n := by rw [hn]; unfold widE; omega
  have hn2 : n ≤ 64 := by rw [hn]; unfold widE; omega
  have HNE := Lib.hid hn
  have B0 := Lib.hid (below_alloc (Below.refl w.heap.size w) (.cells cellsN 9))
  have K0 := Lib.hid (heap_alloc_new w (.cells cellsN 9))
  clear hR hn
  go_enter Tryd.func11, Tryd.ntmps11
  go_wp2_with fail
  obtain ⟨W0, hW0⟩ : ∃ W0, W0 = w.alloc (.cells cellsN 9) := ⟨_, rfl⟩
  rw [← hW0] at B0 K0
  change Code.wp _ _ _ _ (w.alloc (.cells cellsN 9))
  rw [← hW0]
  clear hW0
  have hb0 := B0.out.size
  go_loopw [10, 11] (fun v i wr => ∃ (k : Nat) (vs : List (ByteArray × Int)), k ≤ R ∧ i = .int .i64 k ∧ Hid (vs.length = k) ∧ Hid (∀ x ∈ vs, x.2 = (n : Int)) ∧ Hid (Own kVar 46 NoS wr W0.heap.size v vs) ∧ Hid (Below W0.heap.size W0 wr)) (fun _ i _ => R - (intOf i).toNat)
  case atStart => exact ⟨0, [], by omega, rfl, rfl, fun x hx => by simp at hx, Own.nil _ _ _ _ _, Below.refl _ _⟩
  case round =>
    obtain ⟨k, vs, hk, rfl, HVL, HVW, HO, HB⟩ := hrel
    by_cases hlt : k < R
    · obtain ⟨nm, d0⟩ := name_at (block_below HB.out K0.out) (show k < 8 by omega)
      have hxl : vs.length ≤ 8 := by have := HVL.out; omega
      have hk8 : (k : Int) < 8 := by omega
      obtain ⟨a4, c4, rfl⟩ := HO.out.form
      go_wp2_with (first
        | (at_builtin; refine wpList_append_ev _ rfl _ _ 44 rfl _ _ rfl rfl _ (run_app1 wr infoVar rfl _ HO.out 46 [.string nm, .int .i64 (n : Int)] (nm, (n : Int)) rfl (by omega) (by omega) HB.out.size) ?_; rintro n5 w5 ⟨ow5, g5, v5, _⟩; have B5 := Lib.hid (HB.out.grown g5 HB.out.size (fun k hk => (HO.out.lt k hk).1)); have O5 := Lib.hid ow5; clear ow5 g5 v5)
        | fail)
      go_roundw
      case rel => exact ⟨k + 1, vs ++ [(nm, (n : Int))], by omega, by go_num, by show _ = _; rw [List.length_append, HVL.out]; rfl, fun x hx => by rcases List.mem_append.1 hx with h | h; (· exact HVW.out x h); (· rw [List.mem_singleton.1 h]), O5.out, B5.out⟩
      case measure => simp [intOf]; omega
    · have hnl : ¬ ((k : Int) < (R : Int)) := by omega
      have hvl : vs.length = R := by have := HVL.out; omega
      have HCR : Hid ((smAll vs (numM many) s).1.map (fun r => r.map Prod.snd) = crnL W N many s) := crn_of (by rw [hvl, HRE.out]) (fun v hv => by rw [HVW.out v hv, ← HNE.out]; unfold widE; omega)
      have HQL := Lib.hid (smAll_length vs s (numM many))
      have HRL : Hid (∀ r ∈ (smAll vs (numM many) s).1, r.length ≤ 16) := by
        intro r hr
        rw [smAll_rows vs s (numM many) r hr, hvl]
        omega
      have hQ : numM many ≤ 256 := by unfold numM; omega
      obtain ⟨a4, c4, rfl⟩ := HO.out.form
      have hrv := HO.out.rd'
      have CS := Lib.hid (fun W' (b : Below wr.heap.size wr W') => ref45_Samples _ vs a4 c4 many s W' (hrv.frame (Same.below b)) (by omega) (fun x hx => by rw [HVW.out x hx]; omega) hs)
      have BB := Lib.hid (below_both B0.out HB.out)
      clear hvl hrv HVL HVW HO hlt hk
      generalize (smAll vs (numM many) s).1 = rows at *
      generalize numM many = Q at *
      obtain ⟨w2, hw2⟩ : ∃ w2, w2 = wr := ⟨_, rfl⟩
      subst hw2
      obtain ⟨vl, hvl⟩ : ∃ m, m = vs.length := ⟨_, rfl⟩
      rw [← hvl] at CS
      rw [← hvl]
      clear hvl
      go_wp2_with fail
      refine (CS.out _ (Below.refl _ _)).mono ?_
      rintro e w3 ⟨v3, rfl, o3, b3⟩
      obtain ⟨sa, sc, rfl⟩ := o3.form
      have RR := Lib.hid o3.rd'
      have B3 := Lib.hid (below_both BB.out b3)
      have hb3 := B3.out.size
      clear o3 b3 CS
      obtain ⟨Q', hQ'⟩ : ∃ m, m = rows.length := ⟨_, rfl⟩
      rw [← hQ']
      have HQ' := Lib.hid hQ'
      have hQe : Q' ≤ 256 := by have := HQL.out; omega
      clear hQ'
      go_wp2_with fail
      go_loopw [13, 14] (fun v i wr => ∃ k : Nat, k ≤ Q' ∧ i = .int .i64 k ∧ Hid (Own (Kd.slice (Kd.int .u64)) 25 (fun b => w3.heap.size ≤ b) wr w3.heap.size v ((rows.take k).map (fun r => r.map Prod.snd))) ∧ Hid (Below w3.heap.size w3 wr)) (fun _ i _ => Q' - (intOf i).toNat)
      case atStart => exact ⟨0, by omega, rfl, by rw [List.take_zero]; exact Own.nil _ _ _ _ _, Below.refl _ _⟩
      case round =>
        obtain ⟨k, hk, rfl, HO, HB4⟩ := hrel
        by_cases hlt : k < Q'
        · have HLT : Hid (k < rows.length) := by show _ < _; rw [← HQ'.out]; exact hlt
          obtain ⟨b, o, cs, rfl, -, hbw, hkk, hcell⟩ := (RR.out.frame (Same.below HB4.out)).elem HLT.out
          obtain ⟨ra, rc, rfl, hrow⟩ := hkk
          have d5 := hcell 0 _ rfl
          have hsz : (Kd.slice kBind).sz = 1 := rfl
          rw [hsz, Nat.mul_one, Nat.add_zero] at d5
          have HT : Hid ((rows.take (k + 1)).map (fun r => r.map Prod.snd) = (rows.take k).map (fun r => r.map Prod.snd) ++ [(rows[k]'HLT.out).map Prod.snd]) := by show _ = _; rw [List.take_succ_eq_append_getElem HLT.out, List.map_append]; rfl
          have hxl : ((rows.take k).map (fun r => r.map Prod.snd)).length ≤ 256 := by rw [List.length_map, List.length_take]; omega
          have HROW := Lib.hid hrow
          have hr16 := HRL.out _ (List.getElem_mem HLT.out)
          clear hcell hsz hrow
          generalize (rows.take k).map (fun r => r.map Prod.snd) = X at *
          generalize rows[k]'HLT.out = row at *
          obtain ⟨rl, hrl⟩ : ∃ n, n = row.length := ⟨_, rfl⟩
          rw [← hrl] at d5 hr16
          have HRLN := Lib.hid hrl
          have HD5 := Lib.hid d5
          have HBW := Lib.hid hbw
          clear hrl d5 hbw
          obtain ⟨a6, c6, rfl⟩ := HO.out.form
          obtain ⟨W4, hW4⟩ : ∃ W4, W4 = wr := ⟨_, rfl⟩
          subst hW4
          have hb4 := HB4.out.size
          go_wp2_with fail
          go_loopw [15, 16] (fun v i wr => ∃ j : Nat, j ≤ rl ∧ i = .int .i64 j ∧ Hid (Own (Kd.int .u64) 28 NoS wr W4.heap.size v ((row.take j).map Prod.snd)) ∧ Hid (Below W4.heap.size W4 wr)) (fun _ i _ => rl - (intOf i).toNat)
          case atStart => exact ⟨0, by omega, rfl, by rw [List.take_zero]; exact Own.nil _ _ _ _ _, Below.refl _ _⟩
          case round =>
            obtain ⟨j, hj, rfl, HL, HB6⟩ := hrel
            have d6 := (HB6.out.cell (p := ⟨b, o + k, none⟩) HBW.out).trans HD5.out
            by_cases hjl : j < rl
            · have HJL : Hid (j < row.length) := by show _ < _; rw [← HRLN.out]; exact hjl
              obtain ⟨b2, o2, rfl, -, -, e0, e1⟩ := bind_elem (HROW.out.frame (Same.below HB6.out)) HJL.out
              have HT2 : Hid ((row.take (j + 1)).map Prod.snd = (row.take j).map Prod.snd ++ [(row[j]'HJL.out).2]) := by show _ = _; rw [List.take_succ_eq_append_getElem HJL.out, List.map_append]; rfl
              have hxl2 : ((row.take j).map Prod.snd).length ≤ 16 := by rw [List.length_map, List.length_take]; omega
              generalize (row.take j).map Prod.snd = X2 at *
              generalize row[j]'HJL.out = y at *
              obtain ⟨yn, yv⟩ := y
              obtain ⟨a7, c7, rfl⟩ := HL.out.form
              go_wp2_with (first
                | (at_builtin; refine wpList_append_ev _ rfl _ _ 25 rfl _ _ rfl rfl _ (run_app1 wr infoU64 rfl _ HL.out 28 [.int .u64 yv] yv rfl (by omega) (by omega) HB6.out.size) ?_; rintro n8 w8 ⟨ow8, g8, v8, _⟩; have B8 := Lib.hid (HB6.out.grown g8 HB6.out.size (fun k hk => (HL.out.lt k hk).1)); have O8 := Lib.hid ow8; clear ow8 g8 v8)
                | fail)
              go_roundw
              case rel => exact ⟨j + 1, by omega, by go_num, by show Own _ _ _ _ _ _ _; rw [HT2.out]; exact O8.out, B8.out⟩
              case measure => simp [intOf]; omega
            · have hnl2 : ¬ ((j : Int) < (rl : Int)) := by omega
              have h7 := HL.out
              rw [show row.take j = row from List.take_of_length_le (by have := HRLN.out; omega)] at h7
              have HX : Hid ((Kd.slice (Kd.int .u64)).K (fun b => w3.heap.size ≤ b ∧ some b ≠ _) wr [_] (row.map Prod.snd)) := own_elemF HO.out HB6.out.size h7 hb4
              have HO2 := Lib.hid (HO.out.below HB6.out)
              have BB := Lib.hid (below_both HB4.out HB6.out)
              have hb5 : w3.heap.size ≤ wr.heap.size := by have := HB6.out.size; omega
              obtain ⟨a7, c7, rfl⟩ := h7.form
              clear h7 hjl hj
              generalize row.map Prod.snd = Y at *
              go_wp2_with (first
                | (at_builtin; refine wpList_append_ev _ rfl _ _ 30 rfl _ _ rfl rfl _ (run_app1 wr infoU64s' rfl _ HO2.out 25 [.slice a7 Y.length c7] _ HX.out (by omega) (by omega) hb5) ?_; rintro n9 w9 ⟨ow9, g9, v9, _⟩; have B9 := Lib.hid (BB.out.grown g9 BB.out.size (fun k hk => (HO2.out.lt k hk).1)); have O9 := Lib.hid ow9; clear ow9 g9 v9)
                | fail)
              go_roundw
              case rel => exact ⟨k + 1, by omega, by go_num, by show Own _ _ _ _ _ _ _; rw [HT.out]; exact O9.out, B9.out⟩
              case measure => simp [intOf]; omega
        · have hnl3 : ¬ ((k : Int) < (Q' : Int)) := by omega
          have h9 := HO.out
          rw [show rows.take k = rows from List.take_of_length_le (by have := HQ'.out; omega), HCR.out] at h9
          have H9 := Lib.hid (h9.mono (S' := fun b => w.heap.size ≤ b) (base' := w.heap.size) (fun b _ hb => Nat.le_trans hb3 hb) hb3)
          clear h9 hlt hk HO
          go_wp2_with fail
          go_ret
          exact ⟨_, rfl, H9.out, below_both B3.out HB4.out⟩
set_option maxRecDepth 20000 in
set_option maxHeartbeats 2000000 in
theorem law_Corners (W N many : Int) (s : Int) (w : World) (hK : IsaT w) (hs : 0 ≤ s ∧ s < 18446744073709551616) :
    Calls Tryd.prog 4 #[.int .i64 W, .int .i64 N, .int .i64 many, .int .u64 s] w fun e w' => e = .returned (.bool true) ∧ Below w.heap.size w w' := by
  obtain ⟨S, rfl⟩ := Int.eq_ofNat_of_zero_le hs.1
  have CA := Lib.hid (fun W (b : Below w.heap.size w W) => law53_alive W (hK.below b))
  have C1 := Lib.hid (refine_Corners W N many S w (by omega))
  have C2 := Lib.hid (fun W' => ref53_Corners W N many S W' (by omega))
  clear hK
  go_enter Tryd.func4, Tryd.ntmps4
  go_wp2_with fail
  refine C1.out.mono ?_
  rintro e w1 ⟨v1, rfl, o1, b1⟩
  have B1 := Lib.hid b1
  have O1 := Lib.hid o1
  obtain ⟨a1, c1, rfl⟩ := o1.form
  clear o1 b1 C1
  go_wp2_with fail
  refine (C2.out _).mono ?_
  rintro e w2 ⟨v2, rfl, o2, b2⟩
  have B2 := Lib.hid (below_both B1.out b2)
  have R1 := Lib.hid ((O1.out.below b2).rd')
  obtain ⟨a2, c2, rfl⟩ := o2.form
  have R2 := Lib.hid o2.rd'
  clear o2 b2 C2
  have CS := Lib.hid (ref49_SameStates _ _ a1 a2 c1 c2 _ _ w2 R1.out R2.out rfl)
  generalize crnL W N many S = l at *
  go_wp2_with fail
  refine CS.out.mono ?_
  rintro e w3 ⟨rfl, d3⟩
  have B3 := Lib.hid (B2.out.trans (d3.below _))
  clear d3
  go_wp2_with fail
  refine (CA.out _ B3.out).mono ?_
  rintro e w4 ⟨rfl, b4⟩
  go_wp2_with fail
  go_ret
  exact ⟨rfl, below_both B3.out b4⟩
end Go.Proofs.Sat
