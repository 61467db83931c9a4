/- For RefineCorners: the walk of refine.Corners. -/
import Derived.Test.YtkomfeeimdlokaaDoorRkD
import Derived.Laws.Runes
set_option linter.unusedVariables false
set_option linter.unusedSimpArgs false
namespace Go.Proofs.Sat
open Go Go.RowKit
theorem smAll_rows (vs : List (ByteArray × Int)) (s : Nat) : ∀ M, ∀ r ∈ (smAll vs M s).1, r.length = vs.length
  | 0, r, h => by simp [smAll] at h
  | M + 1, r, h => by
    rw [smAll_succ] at h
    rcases List.mem_append.1 h with h | h
    · exact smAll_rows vs s M r h
    · rw [List.mem_singleton.1 h]; exact smRow_length M vs _
/-- A row of variables, cell by cell. -/
structure VarsP (w : World) (g n : Nat) (f : Nat → ByteArray × Int) : Prop where
  blk : ∃ cur, w.heap[g]? = some (.cells cur 46 (0, 0)) ∧ cur.size = n * 2
  at0 : ∀ i, i < n → w.cell? ⟨g, i * 2, none⟩ = some (.string (f i).1)
  at1 : ∀ i, i < n → w.cell? ⟨g, i * 2 + 1, none⟩ = some (.int .i64 (f i).2)
theorem varsP_new {w : World} {B g n : Nat} {x0 : ByteArray × Int} (h : Own kVar 46 NoS w B (.slice (some ⟨g, 0, none⟩) n n) (List.replicate n x0)) : VarsP w g n (fun _ => x0) := by
  have hr := h.rd'
  obtain ⟨cs, ho, -⟩ := h
  rcases ho.2 with ⟨h0, -⟩ | ⟨g', cap, cur, hv, -, hg, h1, h2, h3, -⟩
  · cases h0
  · injection hv with e1 e2 e3
    obtain rfl : g = g' := by injection e1 with e1; injection e1
    subst e3
    have hb : ∀ i, i < n → w.cell? ⟨g, i * 2, none⟩ = some (.string x0.1) ∧ w.cell? ⟨g, i * 2 + 1, none⟩ = some (.int .i64 x0.2) := by
      intro i hi
      obtain ⟨b, o, e, -, -, d0, d1⟩ := var_elem hr (j := i) (by simpa using hi)
      injection e with e
      injection e with e1 e2
      subst e1 e2
      simp only [List.getElem_replicate, Nat.zero_add] at d0 d1
      exact ⟨d0, d1⟩
    exact ⟨⟨cur, hg, by simpa [kVar, Kd.flat] using h3⟩, fun i hi => (hb i hi).1, fun i hi => (hb i hi).2⟩
theorem VarsP.set {w : World} {g n : Nat} {f : Nat → ByteArray × Int} (h : VarsP w g n f) {i : Nat} (hi : i < n) (x : ByteArray × Int) : VarsP ((w.setCell ⟨g, i * 2, none⟩ (.string x.1)).setCell ⟨g, i * 2 + 1, none⟩ (.int .i64 x.2)) g n (fun j => if j = i then x else f j) := by
  obtain ⟨cur, hg, hc⟩ := h.blk
  have hg1 : (w.setCell ⟨g, i * 2, none⟩ (.string x.1)).heap[g]? = some (.cells (cur.setIfInBounds (i * 2) (.string x.1)) 46 (0, 0)) := by simp [World.setCell, Array.getElem?_modify, hg]
  have hg2 : ((w.setCell ⟨g, i * 2, none⟩ (.string x.1)).setCell ⟨g, i * 2 + 1, none⟩ (.int .i64 x.2)).heap[g]? = some (.cells ((cur.setIfInBounds (i * 2) (.string x.1)).setIfInBounds (i * 2 + 1) (.int .i64 x.2)) 46 (0, 0)) := by
    have h1 := hg1
    simp only [World.setCell, Array.getElem?_modify] at h1 ⊢
    simp [h1, hg]
  refine ⟨⟨_, hg2, by simpa using hc⟩, fun j hj => ?_, fun j hj => ?_⟩
  · by_cases e : j = i
    · subst e
      simp only [if_true]
      rw [cell_set_ne hg1 (by omega)]
      exact cell_set_eq hg (by omega)
    · simp only [if_neg e]
      rw [cell_set_ne hg1 (by omega), cell_set_ne hg (by omega)]
      exact h.at0 j hj
  · by_cases e : j = i
    · subst e
      simp only [if_true]
      exact cell_set_eq hg1 (by simp; omega)
    · simp only [if_neg e]
      rw [cell_set_ne hg1 (by omega), cell_set_ne hg (by omega)]
      exact h.at1 j hj
theorem VarsP.rd {w : World} {g n : Nat} {f : Nat → ByteArray × Int} (h : VarsP w g n f) (hn : n ≤ 1000) : Rd kVar (fun _ => True) w (some ⟨g, 0, none⟩) n ((List.range n).map f) := by
  obtain ⟨cur, hg, hc⟩ := h.blk
  refine ⟨by simp, by omega, fun _ => ⟨g, 0, rfl, trivial, (Array.getElem?_eq_some_iff.1 hg).1, fun j hj => ?_⟩⟩
  have hj' : j < n := by simpa using hj
  refine ⟨encV ((List.range n).map f)[j], rfl, fun i u hu => ?_⟩
  have hsz : kVar.sz = 2 := rfl
  rw [hsz, Nat.zero_add]
  simp only [List.getElem_map, List.getElem_range] at hu
  match i, hu with
  | 0, hu => simp at hu; subst hu; exact h.at0 j hj'
  | 1, hu => simp at hu; subst hu; exact h.at1 j hj'
  | i + 2, hu => simp at hu
set_option maxRecDepth 200000 in
set_option maxHeartbeats 4000000 in
theorem refine_Corners (W N many : Int) (s : Nat) (w : World) (hs : s < 18446744073709551616) :
    Calls Tryd.prog 10 #[.int .i64 W, .int .i64 N, .int .i64 many, .int .u64 (s : Int)] w fun e w' => ∃ v, e = .returned v ∧ Own (Kd.slice (Kd.int .u64)) 25 (fun b => w.heap.size ≤ b) w' w.heap.size v (crnL W N many s) ∧ Below w.heap.size w w' := by
  obtain ⟨R, hR⟩ : ∃ R, R = numE N := ⟨_, rfl⟩
  have hRN : min (max N 0) 8 = (R : Int) := by rw [hR]; unfold numE; omega
  have hR8 : R ≤ 8 := by rw [hR]; exact numE_le N
  have HRE := Lib.hid hR
  clear hR
  go_enter Tryd.func10, Tryd.ntmps10
  go_wp2_with (first
    | ((with_reducible refine gate_m 44 (.tmp 19) (.tmp 19) rfl ?_); refine wpList_make_ev _ rfl (.tmp 19) (.tmp 19) 44 rfl _ _ rfl rfl _ (run_mkn (d := kVar) (x0 := (ByteArray.empty, 0)) _ infoVar rfl NoS (fun S' w' => rfl) (base := w.heap.size) _ _ _ _ R rfl rfl (by omega) (by omega) (Nat.le_refl _)) ?_; rintro v' w1 ⟨hG, hg, rfl⟩; have G1 := Lib.hid (varsP_new hG); have B1 := Lib.hid ((Below.refl w.heap.size w).grown hg (Nat.le_refl _) (fun k hk => by cases hk)); clear hG hg)
    | fail)
  go_loopw [23] (fun i wr => ∃ (k : Nat) (f : Nat → ByteArray × Int), k ≤ R ∧ i = .int .i64 k ∧ Hid (∀ i, i < k → (f i).2 = W) ∧ Hid (VarsP wr w.heap.size R f) ∧ Hid (Below w.heap.size w wr)) (fun i _ => R - (intOf i).toNat)
  case atStart => exact ⟨0, _, by omega, rfl, fun i h => by omega, G1.out, B1.out⟩
  case round =>
    obtain ⟨k, f, hk, rfl, HF, HV, HB⟩ := hrel
    by_cases hlt : k < R
    · obtain ⟨cur, hgb, hgs⟩ := HV.out.blk
      have HGB := Lib.hid hgb
      have kf : ∀ i, wr.frozen? ⟨w.heap.size, i, none⟩ = false := fun i => frozen_of_block HGB.out
      have d0 := HV.out.at0 k hlt
      have d1 := HV.out.at1 k hlt
      clear hgb hgs
      have hsz : (Utf8.encode (48 + (k : Int))).size = 1 := by
        rcases (show k = 0 ∨ k = 1 ∨ k = 2 ∨ k = 3 ∨ k = 4 ∨ k = 5 ∨ k = 6 ∨ k = 7 by omega) with rfl | rfl | rfl | rfl | rfl | rfl | rfl | rfl <;> decide +kernel
      have hsm : ∀ W : World, (Op.stringOp .add { data := #[114] } (Utf8.encode (48 + (k : Int)))).run Tryd.prog W = .ok (.string ({ data := #[114] } ++ Utf8.encode (48 + (k : Int)))) W := fun W => run_string_add_sum W _ _ (by rw [hsz]; decide)
      have hw1 : IntKind.i64.wrap (48 + (k : Int)) = 48 + (k : Int) := IntWalk.i64_in _ (by omega)
      have hw2 : IntKind.i32.wrap (48 + (k : Int)) = 48 + (k : Int) := by rw [IntKind.wrap_i32]; omega
      go_wp2_with fail
      go_roundw
      case rel =>
        refine ⟨k + 1, fun j => if j = k then ((({ data := #[114] } : ByteArray) ++ Utf8.encode (48 + (k : Int))), W) else f j, by omega, by go_num, fun j hj => ?_, HV.out.set hlt ((({ data := #[114] } : ByteArray) ++ Utf8.encode (48 + (k : Int))), W), (HB.out.setCell (Nat.le_refl _) _).setCell (Nat.le_refl _) _⟩
        show (if j = k then _ else f j).2 = W
        by_cases e : j = k
        · rw [if_pos e]
        · rw [if_neg e]; exact HF.out j (by omega)
      case measure => simp [intOf]; omega
    · have hnl : ¬ ((k : Int) < (R : Int)) := by omega
      obtain ⟨vs, hvs⟩ : ∃ vs, vs = (List.range R).map f := ⟨_, rfl⟩
      have hvl : vs.length = R := by rw [hvs]; simp
      have HRV := HV.out.rd (by omega)
      rw [← hvs] at HRV
      have CS := fun W' (b : Below wr.heap.size wr W') => cvec_Samples (fun _ => True) vs (some ⟨w.heap.size, 0, none⟩) R many s W' (HRV.frame (Same.below b)) (by omega) hs
      have HCR : Hid ((smAll vs (numM many) s).1.map (fun r => r.map Prod.snd) = crnL W N many s) := crn_of (by rw [hvl, HRE.out]) (fun v hv => by
        rw [hvs] at hv
        obtain ⟨i, hi, rfl⟩ := List.mem_map.1 hv
        rw [HF.out i (by have := List.mem_range.1 hi; omega)])
      rw [hvl] at CS
      replace CS := Lib.hid CS
      have HQL := Lib.hid (smAll_length vs s (numM many))
      have HRL : Hid (∀ r ∈ (smAll vs (numM many) s).1, r.length ≤ 16) := by
        intro r hr
        rw [smAll_rows vs s (numM many) r hr, hvl]
        omega
      have hQ : numM many ≤ 256 := by unfold numM; omega
      clear hvs hvl HRV HV HF hlt hk
      generalize (smAll vs (numM many) s).1 = rows at *
      generalize numM many = Q at *
      obtain ⟨w2, hw2⟩ : ∃ w2, w2 = wr := ⟨_, rfl⟩
      subst hw2
      go_wp2_with fail
      refine (CS.out _ (Below.refl _ _)).mono ?_
      rintro e w3 ⟨sa, sc, rfl, hrd, b3⟩
      have RR := Lib.hid hrd
      have B3 := Lib.hid (below_both HB.out b3)
      have hb3 := B3.out.size
      clear hrd b3 CS
      go_wp2_with fail
      go_loopw [11, 42] (fun v i wr => ∃ k : Nat, k ≤ Q ∧ i = .int .i64 k ∧ Hid (Own (Kd.slice (Kd.int .u64)) 25 (fun b => w3.heap.size ≤ b) wr w3.heap.size v ((rows.take k).map (fun r => r.map Prod.snd))) ∧ Hid (Below w3.heap.size w3 wr)) (fun _ i _ => Q - (intOf i).toNat)
      case atStart => exact ⟨0, by omega, rfl, by rw [List.take_zero]; exact Own.nil _ _ _ _ _, Below.refl _ _⟩
      case round =>
        obtain ⟨k, hk, rfl, HO, HB4⟩ := hrel
        by_cases hlt : k < Q
        · have HLT : Hid (k < rows.length) := by show _ < _; rw [HQL.out]; exact hlt
          obtain ⟨b, o, cs, rfl, -, -, hkk, hcell⟩ := (RR.out.frame (Same.below HB4.out)).elem HLT.out
          obtain ⟨ra, rc, rfl, hrow⟩ := hkk
          have d5 := hcell 0 _ rfl
          have hsz : (Kd.slice kBind).sz = 1 := rfl
          rw [hsz, Nat.mul_one, Nat.add_zero] at d5
          have HT : Hid ((rows.take (k + 1)).map (fun r => r.map Prod.snd) = (rows.take k).map (fun r => r.map Prod.snd) ++ [(rows[k]'HLT.out).map Prod.snd]) := by show _ = _; rw [List.take_succ_eq_append_getElem HLT.out, List.map_append]; rfl
          have hxl : ((rows.take k).map (fun r => r.map Prod.snd)).length ≤ 256 := by rw [List.length_map, List.length_take]; omega
          have HROW := Lib.hid hrow
          have hr16 := HRL.out _ (List.getElem_mem HLT.out)
          clear hcell hsz hrow
          generalize (rows.take k).map (fun r => r.map Prod.snd) = X at *
          generalize rows[k]'HLT.out = row at *
          obtain ⟨rl, hrl⟩ : ∃ n, n = row.length := ⟨_, rfl⟩
          rw [← hrl] at d5 hr16
          have HRLN := Lib.hid hrl
          clear hrl
          obtain ⟨a6, c6, rfl⟩ := HO.out.form
          obtain ⟨W4, hW4⟩ : ∃ W4, W4 = wr := ⟨_, rfl⟩
          subst hW4
          have hb4 := HB4.out.size
          go_wp2_with (first
            | ((with_reducible refine gate_m 25 (.const (.int .i64 0)) (.tmp 47) rfl ?_); refine wpList_make_ev _ rfl (.const (.int .i64 0)) (.tmp 47) 25 rfl _ _ rfl rfl _ (run_mk0 _ (Kd.int .u64) infoU64 rfl NoS (base := W4.heap.size) _ _ _ rl rfl (by omega) (by omega) (Nat.le_refl _)) ?_; rintro v' w5 ⟨hG, hg, rfl⟩; have G5 := Lib.hid hG; have B5 := Lib.hid ((Below.refl W4.heap.size W4).grown hg (Nat.le_refl _) (fun k hk => by cases hk)); clear hG hg)
            | fail)
          go_loopw [14, 51] (fun v i wr => ∃ j : Nat, j ≤ rl ∧ i = .int .i64 j ∧ Hid (Own (Kd.int .u64) 28 NoS wr W4.heap.size v ((row.take j).map Prod.snd)) ∧ Hid (Below W4.heap.size W4 wr)) (fun _ i _ => rl - (intOf i).toNat)
          case atStart => exact ⟨0, by omega, rfl, by rw [List.take_zero]; exact G5.out, B5.out⟩
          case round =>
            obtain ⟨j, hj, rfl, HL, HB6⟩ := hrel
            by_cases hjl : j < rl
            · have HJL : Hid (j < row.length) := by show _ < _; rw [← HRLN.out]; exact hjl
              obtain ⟨b2, o2, rfl, -, -, e0, e1⟩ := bind_elem (HROW.out.frame (Same.below HB6.out)) HJL.out
              have HT2 : Hid ((row.take (j + 1)).map Prod.snd = (row.take j).map Prod.snd ++ [(row[j]'HJL.out).2]) := by show _ = _; rw [List.take_succ_eq_append_getElem HJL.out, List.map_append]; rfl
              have hxl2 : ((row.take j).map Prod.snd).length ≤ 16 := by rw [List.length_map, List.length_take]; omega
              generalize (row.take j).map Prod.snd = X2 at *
              generalize row[j]'HJL.out = y at *
              obtain ⟨yn, yv⟩ := y
              have KB := Lib.hid (heap_alloc_new wr (.cells #[.string yn, .int .u64 yv] 51))
              have HLA := Lib.hid (HL.out.alloc (.cells #[.string yn, .int .u64 yv] 51))
              have BA := Lib.hid (below_alloc HB6.out (.cells #[.string yn, .int .u64 yv] 51))
              have u1 := cell_of_row _ _ 1 _ _ _ KB.out
              obtain ⟨a7, c7, rfl⟩ := HL.out.form
              go_upto_region 15 with fail
              obtain ⟨W8, hW8⟩ : ∃ W8, W8 = wr.alloc (.cells #[.string yn, .int .u64 yv] 51) := ⟨_, rfl⟩
              rw [← hW8] at HLA BA u1
              change Code.wp _ _ _ _ (wr.alloc (.cells #[.string yn, .int .u64 yv] 51))
              rw [← hW8]
              clear hW8 KB
              go_wp2_with (first
                | (at_builtin; refine wpList_append_ev _ rfl _ _ 25 rfl _ _ rfl rfl _ (run_app1 W8 infoU64 rfl _ HLA.out 28 [.int .u64 yv] yv rfl (by omega) (by omega) BA.out.size) ?_; rintro n8 w8 ⟨ow8, g8, v8, _⟩; have B8 := Lib.hid (BA.out.grown g8 BA.out.size (fun k hk => (HLA.out.lt k hk).1)); have O8 := Lib.hid ow8; clear ow8 g8 v8)
                | fail)
              go_roundw
              case rel => exact ⟨j + 1, by omega, by go_num, by show Own _ _ _ _ _ _ _; rw [HT2.out]; exact O8.out, B8.out⟩
              case measure => simp [intOf]; omega
            · have hnl2 : ¬ ((j : Int) < (rl : Int)) := by omega
              have h7 := HL.out
              rw [show row.take j = row from List.take_of_length_le (by have := HRLN.out; omega)] at h7
              have HX : Hid ((Kd.slice (Kd.int .u64)).K (fun b => w3.heap.size ≤ b ∧ some b ≠ _) wr [_] (row.map Prod.snd)) := own_elemF HO.out HB6.out.size h7 hb4
              have HO2 := Lib.hid (HO.out.below HB6.out)
              have BB := Lib.hid (below_both HB4.out HB6.out)
              have hb5 : w3.heap.size ≤ wr.heap.size := by have := HB6.out.size; omega
              obtain ⟨a7, c7, rfl⟩ := h7.form
              clear h7 hjl hj
              generalize row.map Prod.snd = Y at *
              go_wp2_with (first
                | (at_builtin; refine wpList_append_ev _ rfl _ _ 30 rfl _ _ rfl rfl _ (run_app1 wr infoU64s' rfl _ HO2.out 25 [.slice a7 Y.length c7] _ HX.out (by omega) (by omega) hb5) ?_; rintro n9 w9 ⟨ow9, g9, v9, _⟩; have B9 := Lib.hid (BB.out.grown g9 BB.out.size (fun k hk => (HO2.out.lt k hk).1)); have O9 := Lib.hid ow9; clear ow9 g9 v9)
                | fail)
              go_roundw
              case rel => exact ⟨k + 1, by omega, by go_num, by show Own _ _ _ _ _ _ _; rw [HT.out]; exact O9.out, B9.out⟩
              case measure => simp [intOf]; omega
        · have hnl3 : ¬ ((k : Int) < (Q : Int)) := by omega
          have h9 := HO.out
          rw [show rows.take k = rows from List.take_of_length_le (by have := HQL.out; omega), HCR.out] at h9
          have H9 := Lib.hid (h9.mono (S' := fun b => w.heap.size ≤ b) (base' := w.heap.size) (fun b _ hb => Nat.le_trans hb3 hb) hb3)
          clear h9 hlt hk HO
          go_wp2_with fail
          go_ret
          exact ⟨_, rfl, H9.out, below_both B3.out HB4.out⟩
end Go.Proofs.Sat
