/- For RefineCorners: the walk of cvec.Samples. -/
import Derived.Test.YtkomfeeimdlokaaDoorRkB
import Derived.Test.YtkomfeeimdlokaaDoorOps4
import Derived.Deep.RegionLaw
import Derived.Deep.CutBlock
import Derived.BigQuiet
set_option linter.unusedVariables false
set_option linter.unusedSimpArgs false
namespace Go.Proofs.Sat
open Go Go.RowKit
/-- A row of rows, made row by row; one row is under way. -/
structure OutP (w : World) (g M H : Nat) (rows : List (List (ByteArray × Int))) : Prop where
  gH : g < H
  blk : ∃ cur, w.heap[g]? = some (.cells cur 49 (0, 0)) ∧ cur.size = M
  done : ∀ j (hj : j < rows.length), ∃ a c, w.cell? ⟨g, j, none⟩ = some (.slice a rows[j].length c) ∧ Rd kBind (fun b => b < H ∧ b ≠ g) w a c rows[j]
  todo : ∀ j, rows.length < j → j < M → w.cell? ⟨g, j, none⟩ = some (.slice none 0 0)
theorem OutP.frame {w w' : World} {g M H : Nat} {rows : List (List (ByteArray × Int))} (h : OutP w g M H rows) (hs : w.heap.size ≤ w'.heap.size) (hb : ∀ b, b < H → b < w.heap.size → w'.heap[b]? = w.heap[b]?) : OutP w' g M H rows := by
  obtain ⟨cur, hg, hc⟩ := h.blk
  have hgl := (Array.getElem?_eq_some_iff.1 hg).1
  have hg' := hb g h.gH hgl
  refine ⟨h.gH, ⟨cur, hg'.trans hg, hc⟩, fun j hj => ?_, fun j h1 h2 => ?_⟩
  · obtain ⟨a, c, h1, h2⟩ := h.done j hj
    exact ⟨a, c, (World.cell?_of_block (a := ⟨g, j, none⟩) hg').trans h1, h2.frame ⟨hs, fun b hb' hl => hb b hb'.1 hl⟩⟩
  · exact (World.cell?_of_block (a := ⟨g, j, none⟩) hg').trans (h.todo j h1 h2)
theorem cell_set_ne {w : World} {g i j : Nat} {v : Value} {cur : Array Value} {t : TypeId} (hg : w.heap[g]? = some (.cells cur t (0, 0))) (hne : j ≠ i) : (w.setCell ⟨g, i, none⟩ v).cell? ⟨g, j, none⟩ = w.cell? ⟨g, j, none⟩ := by
  simp [World.cell?, World.setCell, Array.getElem?_modify, hg, Array.getElem?_setIfInBounds]
  intro h
  exact absurd h.symm hne
theorem cell_set_eq {w : World} {g i : Nat} {v : Value} {cur : Array Value} {t : TypeId} (hg : w.heap[g]? = some (.cells cur t (0, 0))) (hi : i < cur.size) : (w.setCell ⟨g, i, none⟩ v).cell? ⟨g, i, none⟩ = some v := by
  simp [World.cell?, World.setCell, Array.getElem?_modify, hg, Array.getElem?_setIfInBounds, hi]
theorem OutP.set {w : World} {g M H : Nat} {rows : List (List (ByteArray × Int))} (h : OutP w g M H rows) (v : Value) : OutP (w.setCell ⟨g, rows.length, none⟩ v) g M H rows := by
  obtain ⟨cur, hg, hc⟩ := h.blk
  refine ⟨h.gH, ⟨cur.setIfInBounds rows.length v, by simp [World.setCell, Array.getElem?_modify, hg], by simpa using hc⟩, fun j hj => ?_, fun j h1 h2 => ?_⟩
  · obtain ⟨a, c, h1, h2⟩ := h.done j hj
    exact ⟨a, c, (cell_set_ne hg (by omega)).trans h1, h2.frame (Same.setCell w _ (fun b hb => hb.2))⟩
  · exact (cell_set_ne hg (by omega)).trans (h.todo j h1 h2)
theorem OutP.mono {w : World} {g M H H' : Nat} {rows : List (List (ByteArray × Int))} (h : OutP w g M H rows) (hH : H ≤ H') : OutP w g M H' rows :=
  ⟨Nat.lt_of_lt_of_le h.gH hH, h.blk, fun j hj => by
    obtain ⟨a, c, h1, h2⟩ := h.done j hj
    exact ⟨a, c, h1, h2.mono fun b _ hb => ⟨Nat.lt_of_lt_of_le hb.1 hH, hb.2⟩⟩, h.todo⟩
theorem OutP.push {w : World} {g M H : Nat} {rows : List (List (ByteArray × Int))} (h : OutP w g M H rows) {v : Value} {row : List (ByteArray × Int)} (hc : w.cell? ⟨g, rows.length, none⟩ = some v) (ho : Own kBind 51 NoS w H v row) (hH : H ≤ w.heap.size) : OutP w g M w.heap.size (rows ++ [row]) := by
  obtain ⟨a, c, rfl, hr⟩ := ho.rd
  refine ⟨Nat.lt_of_lt_of_le h.gH hH, h.blk, fun j hj => ?_, fun j h1 h2 => h.todo j (by simp at h1; omega) h2⟩
  rcases Nat.lt_or_ge j rows.length with hlt | hge
  · obtain ⟨a', c', h1, h2⟩ := h.done j hlt
    rw [List.getElem_append_left hlt]
    exact ⟨a', c', h1, h2.mono fun b _ hb => ⟨Nat.lt_of_lt_of_le hb.1 hH, hb.2⟩⟩
  · have hjl : j = rows.length := by simp at hj; omega
    subst hjl
    rw [List.getElem_append_right (Nat.le_refl _)]
    simp only [Nat.sub_self, List.getElem_cons_zero]
    have hg := h.gH
    exact ⟨a, c, hc, hr.mono fun b hb hs => ⟨hb, by rcases hs with hs | hs; (· exact hs.elim); (· omega)⟩⟩
theorem OutP.rd {w : World} {g M H : Nat} {rows : List (List (ByteArray × Int))} (h : OutP w g M H rows) (hM : rows.length = M) (h2 : M ≤ 256) : Rd (Kd.slice kBind) (fun _ => True) w (some ⟨g, 0, none⟩) M rows := by
  obtain ⟨cur, hg, hc⟩ := h.blk
  refine ⟨by omega, by omega, fun _ => ⟨g, 0, rfl, trivial, (Array.getElem?_eq_some_iff.1 hg).1, fun j hj => ?_⟩⟩
  obtain ⟨a, c, h1, h2⟩ := h.done j hj
  refine ⟨[.slice a rows[j].length c], ⟨a, c, rfl, h2.mono fun _ _ _ => trivial⟩, fun i u hu => ?_⟩
  have hsz : (Kd.slice kBind).sz = 1 := rfl
  cases i with
  | zero =>
    simp at hu
    subst hu
    rw [hsz, Nat.mul_one, Nat.zero_add, Nat.add_zero]
    exact h1
  | succ i => simp at hu
abbrev encU (_ : Unit) : Value := .slice none 0 0
theorem encU_one : ∀ x, (encU x).oneCell' = true := fun _ => rfl
theorem outP_new {w : World} {B g M : Nat} (h : Own (Kd.val encU encU_one) 49 NoS w B (.slice (some ⟨g, 0, none⟩) M M) (List.replicate M ())) : OutP w g M (g + 1) [] ∧ (0 < M → w.cell? ⟨g, 0, none⟩ = some (.slice none 0 0)) ∧ g < w.heap.size := by
  rcases h.block with ⟨h0, -⟩ | ⟨g', cap, cur, hv, -, hgl, hg, h1, h2, h3, h4⟩
  · cases h0
  · simp at hv
    obtain ⟨rfl, rfl⟩ := hv
    have hcell : ∀ j, j < M → w.cell? ⟨g, j, none⟩ = some (.slice none 0 0) := by
      intro j hj
      have hs : cur.toList.take M = List.replicate M (.slice none 0 0) := by simpa using h4
      have hj' : cur[j]? = some (.slice none 0 0) := by
        have := congrArg (fun l => l[j]?) hs
        simp only [List.getElem?_take_of_lt hj, Array.getElem?_toList, List.getElem?_replicate, if_pos hj] at this
        exact this
      simp [World.cell?, hg, hj']
    exact ⟨⟨by omega, ⟨cur, hg, h3⟩, fun j hj => by simp at hj, fun j h1 h2 => hcell j h2⟩, fun h => hcell 0 h, hgl⟩
set_option maxRecDepth 20000 in
set_option maxHeartbeats 4000000 in
theorem cvec_Samples (S : Nat → Prop) (vs : List (ByteArray × Int)) (a : Option Addr) (ca : Nat) (N : Int) (s : Nat) (w : World) (h : Rd kVar S w a ca vs) (hv : vs.length ≤ 16) (hs : s < 18446744073709551616) :
    Calls Tryd.prog 14 #[.slice a vs.length ca, .int .i64 N, .int .u64 (s : Int)] w fun e w' => ∃ a' c', e = .returned (.slice a' (numM N) c') ∧ Rd (Kd.slice kBind) (fun _ => True) w' a' c' (smAll vs (numM N) s).1 ∧ Below w.heap.size w w' := by
  obtain ⟨M, hM⟩ : ∃ M, M = numM N := ⟨_, rfl⟩
  have hMN : max 0 (min N 256) = (M : Int) := by rw [hM]; unfold numM; omega
  have hM2 : M ≤ 256 := by rw [hM]; unfold numM; omega
  rw [← hM]
  have hmin : min (vs.length : Int) 16 = (vs.length : Int) := by omega
  obtain ⟨A, hcut, hA⟩ := cut_to kVar infoVar rfl a vs.length ca vs.length (vs.length : Int) rfl h.1
  have HR : Hid (Rd kVar S w A ca vs) := by
    have h1 := hA S w vs (Nat.le_refl _) h
    rw [List.take_length] at h1
    exact h1
  clear h hM hA
  go_enter Tryd.func14, Tryd.ntmps14
  go_wp2_with (first
    | ((with_reducible refine gate_m 47 (.tmp 20) (.tmp 20) rfl ?_); refine wpList_make_ev _ rfl (.tmp 20) (.tmp 20) 47 rfl _ _ rfl rfl _ (run_mk (enc := encU) _ encU_one (x0 := ()) infoBinds NoS (base := w.heap.size) _ _ _ _ M rfl rfl (by omega) (by omega) (Nat.le_refl _)) ?_; rintro v' w1 ⟨hG, hg, rfl⟩; have G1 := Lib.hid (outP_new hG); have B1 := Lib.hid ((Below.refl w.heap.size w).grown hg (Nat.le_refl _) (fun k hk => by cases hk)); clear hG hg)
    | fail)
  obtain ⟨g, hg⟩ : ∃ g, g = w.heap.size := ⟨_, rfl⟩
  rw [← hg] at G1
  rw [← hg]
  have HGW := Lib.hid hg
  clear hg
  go_loopw [2, 24] (fun sd i wr => ∃ k s' H : Nat, k ≤ M ∧ sd = .int .u64 (s' : Int) ∧ i = .int .i64 k ∧ Hid (s' = (smAll vs k s).2) ∧ Hid (OutP wr g M H (smAll vs k s).1) ∧ Hid (H ≤ wr.heap.size) ∧ Hid (k < M → wr.cell? ⟨g, k, none⟩ = some (.slice none 0 0)) ∧ Hid (Below w.heap.size w wr)) (fun _ i _ => M - (intOf i).toNat)
  case atStart => exact ⟨0, s, g + 1, by omega, rfl, rfl, rfl, G1.out.1, G1.out.2.2, G1.out.2.1, B1.out⟩
  case round =>
    obtain ⟨k, s', H0, hk, rfl, rfl, HS, HO0, HH0, HZ, HB⟩ := hrel
    by_cases hlt : k < M
    case neg =>
      have hnl : ¬ ((k : Int) < (M : Int)) := by omega
      have hkM : k = M := by omega
      have h5 := HO0.out.rd (by rw [smAll_length]; exact hkM) hM2
      have H5 := Lib.hid h5
      rw [hkM] at H5
      clear h5 hlt hk hkM HO0 HZ
      go_wp2_with fail
      go_ret
      exact ⟨some ⟨g, 0, none⟩, M, rfl, H5.out, HB.out⟩
    have hs' : s' < 18446744073709551616 := by rw [HS.out]; exact smAll_lt vs hs k
    have HAS := Lib.hid (smAll_succ vs k s)
    rw [← HS.out] at HAS
    have HAL := Lib.hid (smAll_length vs s k)
    have HZ0 := Lib.hid (HZ.out hlt)
    have HO := Lib.hid (HO0.out.mono HH0.out)
    have hgH : g < wr.heap.size := HO.out.gH
    clear HO0 HZ HH0 H0
    generalize (smAll vs k s).1 = X at *
    obtain ⟨W0, hW0⟩ : ∃ W0, W0 = wr := ⟨_, rfl⟩
    subst hW0
    go_wp2_with fail
    go_loopw [2, 29] (fun sd i wr => ∃ (j t : Nat) (va : Option Addr) (vc : Nat), j ≤ vs.length ∧ sd = .int .u64 (t : Int) ∧ i = .int .i64 j ∧ Hid (t = (smRow k (vs.take j) s').2) ∧ Hid (wr.cell? ⟨g, k, none⟩ = some (.slice va j vc)) ∧ Hid (Own kBind 51 NoS wr W0.heap.size (.slice va j vc) (smRow k (vs.take j) s').1) ∧ Hid (OutP wr g M W0.heap.size X) ∧ Hid (W0.heap.size ≤ wr.heap.size) ∧ Hid (Below w.heap.size w wr)) (fun _ i _ => vs.length - (intOf i).toNat)
    case atStart => exact ⟨0, s', none, 0, by omega, rfl, rfl, rfl, HZ0.out, Own.nil _ _ _ _ _, HO.out, Nat.le_refl _, HB.out⟩
    case round =>
      obtain ⟨j, t, va, vc, hj, rfl, rfl, HT, HC, HL, HOP, HLE, HB2⟩ := hrel
      by_cases hjl : j < vs.length
      · obtain ⟨b, o, rfl, -, -, d0, d1⟩ := var_elem (HR.out.frame (Same.below HB2.out)) hjl
        have HROW := Lib.hid (smRow_succ k vs s' hjl)
        have hxl : (smRow k (vs.take j) s').1.length ≤ 16 := by rw [smRow_length, List.length_take]; omega
        have HSR : Hid (smRow k (vs.take j) s' = ((smRow k (vs.take j) s').1, t)) := by show _ = _; rw [HT.out]
        have ht : t < 18446744073709551616 := by rw [HT.out]; exact smRow_lt k _ _ hs'
        rw [HSR.out] at HROW
        clear HSR HT
        generalize (smRow k (vs.take j) s').1 = X2 at *
        generalize vs[j] = v at *
        obtain ⟨nm, wd⟩ := v
        have HST : Hid (smStep k (X2, t) (nm, wd) = (X2 ++ [(nm, ((smV k (widE wd) t).1 : Int))], (smV k (widE wd) t).2)) := rfl
        rw [HST.out] at HROW
        clear HST
        have C1 := Lib.hid (fun W => bits_MaskA wd W)
        have hn1 : 1 ≤ widE wd := by unfold widE; omega
        have hn2 : widE wd ≤ 64 := by unfold widE; omega
        generalize widE wd = n at *
        obtain ⟨MK, hMK⟩ : ∃ MK, MK = 2 ^ n - 1 := ⟨_, rfl⟩
        rw [← hMK] at C1
        have HMK := Lib.hid hMK
        clear hMK
        obtain ⟨V, hV⟩ : ∃ V, V = (smV k n t).1 := ⟨_, rfl⟩
        obtain ⟨T2, hT2⟩ : ∃ T2, T2 = (smV k n t).2 := ⟨_, rfl⟩
        rw [← hV, ← hT2] at HROW
        have HV := Lib.hid hV
        have HT2 := Lib.hid hT2
        clear hV hT2
        have KV := Lib.hid (heap_alloc_new wr (.cells #[.string nm, .int .i64 wd] 46))
        have HOA := Lib.hid (HOP.out.frame (w' := wr.alloc (.cells #[.string nm, .int .i64 wd] 46)) (by simp) (fun b _ hb => Below.heap_alloc wr _ b hb))
        have hgl : g < wr.heap.size := Nat.lt_of_lt_of_le hgH HLE.out
        have HCA : Hid ((wr.alloc (.cells #[.string nm, .int .i64 wd] 46)).cell? ⟨g, k, none⟩ = some (.slice va j vc)) := (World.cell?_of_block (a := ⟨g, k, none⟩) (Below.heap_alloc wr _ g hgl)).trans HC.out
        have HLA := Lib.hid (HL.out.alloc (.cells #[.string nm, .int .i64 wd] 46))
        have BA := Lib.hid (below_alloc HB2.out (.cells #[.string nm, .int .i64 wd] 46))
        have HNB : Hid (W0.heap.size ≤ wr.heap.size) := HLE.out
        obtain ⟨nb, hnb⟩ : ∃ nb, nb = wr.heap.size := ⟨_, rfl⟩
        rw [← hnb] at KV HNB
        have HLE2 : Hid (W0.heap.size ≤ (wr.alloc (.cells #[.string nm, .int .i64 wd] 46)).heap.size) := by show _ ≤ _; have := HLE.out; simp; omega
        go_wp2_with fail
        refine (C1.out _).mono ?_
        rintro e w1 ⟨rfl, e1⟩
        have KV1 := Lib.hid (e1.heap KV.out)
        have HO1 := Lib.hid (HOA.out.frame (by rw [e1.size]; exact Nat.le_refl _) (fun b _ _ => by obtain ⟨m, rfl⟩ := e1; rfl))
        have HC1 := Lib.hid (e1.cell HCA.out)
        have HL1 := Lib.hid (HLA.out.drawn e1)
        have B1' := Lib.hid (BA.out.trans (e1.below _))
        have HLE3 : Hid (W0.heap.size ≤ w1.heap.size) := by show _ ≤ _; rw [e1.size]; exact HLE2.out
        clear e1 d0 d1 KV HOA HCA HLA BA HLE2 HC HL HOP HB2
        rw [← hnb]
        clear hnb
        go_upto_block 4 with fail
        go_cut [2, 12] (fun sd x wx => sd = .int .u64 (T2 : Int) ∧ x = .int .u64 (V : Int) ∧ Drawn w1 wx)
        case first =>
          have hp1 : 2 ^ n = 2 * 2 ^ (n - 1) := by rw [← Nat.pow_succ']; congr 1; omega
          have hp2 : 2 ^ (n - 1) ≤ 2 ^ 63 := Nat.pow_le_pow_right (by omega) (by omega)
          have hp3 : 0 < 2 ^ (n - 1) := Nat.two_pow_pos _
          have H3 : Hid (IntKind.u64.wrap (IntKind.u64.wrap ((MK : Int) / 2) + 1) = ((2 ^ (n - 1) : Nat) : Int)) := by
            show _ = _
            have hm := HMK.out
            generalize 2 ^ (n - 1) = y at *
            rw [hp1] at hm
            rw [u64_wrap_id ((MK : Int) / 2) (by omega) (by omega), show (MK : Int) / 2 + 1 = (y : Int) by omega]
            exact u64_wrap_id _ (by omega) (by omega)
          clear hp1 hp2 hp3
          rcases (show k = 0 ∨ k = 1 ∨ k = 2 ∨ k = 3 ∨ 4 ≤ k by omega) with h | h | h | h | h
          · subst h
            have HV0 : Hid (V = 0) := HV.out
            have HT0 : Hid (T2 = t) := HT2.out
            go_wp2_with fail
            go_meet
            case rel => exact ⟨by rw [HT0.out], by rw [HV0.out]; rfl, Drawn.refl _⟩
          · subst h
            have HV0 : Hid (V = MK) := by show _ = _; rw [HMK.out]; exact HV.out
            have HT0 : Hid (T2 = t) := HT2.out
            go_wp2_with fail
            go_meet
            case rel => exact ⟨by rw [HT0.out], by rw [HV0.out], Drawn.refl _⟩
          · subst h
            have HV0 : Hid (V = 1) := HV.out
            have HT0 : Hid (T2 = t) := HT2.out
            go_wp2_with fail
            go_meet
            case rel => exact ⟨by rw [HT0.out], by rw [HV0.out]; rfl, Drawn.refl _⟩
          · subst h
            have HV0 : Hid (V = 2 ^ (n - 1)) := HV.out
            have HT0 : Hid (T2 = t) := HT2.out
            go_wp2_with fail
            go_meet
            case rel => exact ⟨by rw [HT0.out], by rw [HV0.out, H3.out], Drawn.refl _⟩
          · have HS4 : Hid (smV k n t = (nextN t / 65536 % 2 ^ n, nextN t)) := by show _ = _; unfold smV; rw [if_neg (by omega)]
            have HV0 : Hid (V = nextN t / 65536 % 2 ^ n) := by show _ = _; rw [HV.out, HS4.out]
            have HT0 : Hid (T2 = nextN t) := by show _ = _; rw [HT2.out, HS4.out]
            have C3 := Lib.hid (fun W => cvec_Next t W)
            have hq := nextN_lt t
            have t0 : ((k : Int) == 0) = false := by simp; omega
            have t1 : ((k : Int) == 1) = false := by simp; omega
            have t2 : ((k : Int) == 2) = false := by simp; omega
            have t3 : ((k : Int) == 3) = false := by simp; omega
            have HA := and_mask n (nextN t / 65536) hn2 (by omega) HMK.out
            generalize nextN t = q at *
            rw [show ((q / 65536 : Nat) : Int) = (q : Int) / 65536 by omega, ← HV0.out] at HA
            replace HA := Lib.hid HA
            clear h
            go_wp2_with fail
            refine (C3.out _).mono ?_
            rintro e w9 ⟨rfl, e9⟩
            have E9 := Lib.hid e9
            clear e9
            go_wp2_with fail
            go_meet
            case rel => exact ⟨by rw [HT0.out], by rw [← HA.out], E9.out⟩
        case rest =>
          obtain ⟨rfl, rfl, D2⟩ := hcut
          obtain ⟨w2, hw2⟩ : ∃ w2, w2 = wc := ⟨_, rfl⟩
          subst hw2
          have KV2 := Lib.hid (Drawn.heap D2 KV1.out)
          have HO2 := Lib.hid (HO1.out.frame (by rw [Drawn.size D2]; exact Nat.le_refl _) (fun b _ _ => by obtain ⟨m, rfl⟩ := D2; rfl))
          have HC2 := Lib.hid (Drawn.cell D2 HC1.out)
          have HL2 := Lib.hid (HL1.out.drawn D2)
          have B2 := Lib.hid (B1'.out.trans (Drawn.below D2 _))
          have HLE4 : Hid (W0.heap.size ≤ w2.heap.size) := by show _ ≤ _; rw [Drawn.size D2]; exact HLE3.out
          clear D2 KV1 HO1 HC1 HL1 B1' HLE3
          have v0 := cell_of_row _ _ 0 _ _ _ KV2.out
          have v1 := cell_of_row _ _ 1 _ _ _ KV2.out
          have q0 := HC2.out
          obtain ⟨cur, hgb, hgs⟩ := HO2.out.blk
          have HGB := Lib.hid hgb
          have HGS := Lib.hid hgs
          have qf : ∀ i, w2.frozen? ⟨g, i, none⟩ = false := fun i => frozen_of_block HGB.out
          have hg2 := (Array.getElem?_eq_some_iff.1 HGB.out).1
          have hn2' := (Array.getElem?_eq_some_iff.1 KV2.out).1
          have q1 : ∀ ob, (w2.alloc ob).cell? ⟨g, k, none⟩ = some (.slice va j vc) := fun ob => (World.cell?_of_block (a := ⟨g, k, none⟩) (Below.heap_alloc w2 ob g hg2)).trans q0
          have qf1 : ∀ ob i, (w2.alloc ob).frozen? ⟨g, i, none⟩ = false := fun ob i => frozen_of_block (block_alloc HGB.out ob)
          have v2 : ∀ ob, (w2.alloc ob).cell? ⟨nb, 0, none⟩ = some (.string nm) := fun ob => (World.cell?_of_block (a := ⟨nb, 0, none⟩) (Below.heap_alloc w2 ob nb hn2')).trans v0
          have hx17 : X2.length ≤ 17 := by omega
          have hbH := HLE4.out
          clear hgb hgs
          go_upto_region 21 with fail
          go_region_law
            (first
            | ((with_reducible refine gate_s (.tmp 60) (.tmp 65) rfl ?_)
               refine step_append_ev _ rfl (.tmp 60) (.tmp 65) 49 rfl _ _ rfl rfl _ (run_app1 w2.drew infoBind rfl _ (HL2.out.drewN 1) 51 [.string nm, .int .u64 (V : Int)] (nm, (V : Int)) rfl (by omega) (by omega) hbH) ?_
               rintro n6 w6 ⟨ow6, g6, v6, an, cn, rfl⟩
               have O6 := Lib.hid ow6
               have G6 := Lib.hid g6
               have KG6 := Lib.hid (block_grown g6 (w := w2.drew) HGB.out (fun e => by have := (HL2.out.lt _ e.symm).1; omega))
               have kf6 : ∀ i, w6.frozen? ⟨g, i, none⟩ = false := fun i => frozen_of_block KG6.out
               have q6 : w6.cell? ⟨g, k, none⟩ = some (.slice va j vc) := (World.cell?_of_block (w := w2) (a := ⟨g, k, none⟩) (KG6.out.trans HGB.out.symm)).trans HC2.out
               clear ow6 g6 v6)
            | fail)
          all_goals
            go_wp2_with fail
            go_roundw
            case rel =>
              have hlj : X2.length = j := by
                obtain ⟨a9, c9, h9⟩ := HL2.out.form
                injection h9 with h9a h9b h9c
                exact h9b.symm
              have hown : ∀ b, (Value.slice va j vc).ownBlock = some b → W0.heap.size ≤ b := fun b hb => (HL2.out.lt b hb).1
              refine ⟨j + 1, T2, an, cn, by omega, rfl, by go_num, by show _ = _; rw [HROW.out], ?_, ?_, ?_, ?_, ?_⟩
              · show _ = _
                rw [← hlj]
                exact cell_set_eq KG6.out (by rw [HGS.out]; exact hlt)
              · show Own _ _ _ _ _ _ _
                rw [HROW.out, ← hlj]
                exact O6.out.same (Same.setCell w6 _ (fun b hb => by rcases hb with hb | hb; (· exact hb.elim); (· have := (O6.out.lt b hb.symm).1; show b ≠ g; omega)))
              · have h6 : OutP w6 g M W0.heap.size X := HO2.out.frame G6.out.size (fun b hb hl => G6.out.block b hl (fun e => by have := hown b e.symm; omega))
                have h7 := h6.set (Value.slice an (X2.length + 1) cn)
                rw [HAL.out] at h7
                exact h7
              · have h6 : w2.heap.size ≤ w6.heap.size := G6.out.size
                show W0.heap.size ≤ (w6.setCell ⟨g, k, none⟩ _).heap.size
                rw [World.size_setCell]
                omega
              · refine Below.setCell (((B2.out.trans ((Drawn.refl w2).drew.below _)).grown G6.out ?_ (fun b hb => by have h1 := hown b hb; have h2 := HB.out.size; omega))) (by show w.heap.size ≤ g; have := HGW.out; omega) _
                have := B2.out.size
                exact this
            case measure => simp [intOf]; omega
      · have hnl : ¬ ((j : Int) < (vs.length : Int)) := by omega
        have e1 : vs.take j = vs := List.take_of_length_le (by omega)
        rw [e1] at HT HL
        have hXl : X.length = k := HAL.out
        have HP := Lib.hid (OutP.push (v := .slice va j vc) HOP.out (by rw [hXl]; exact HC.out) HL.out HLE.out)
        have HZ2 : Hid (k + 1 < M → wr.cell? ⟨g, k + 1, none⟩ = some (.slice none 0 0)) := fun h => HOP.out.todo (k + 1) (by omega) h
        clear e1 hjl hXl
        go_wp2_with fail
        go_roundw
        case rel => exact ⟨k + 1, t, wr.heap.size, by omega, rfl, by go_num, by show _ = _; rw [HAS.out, HT.out], by show OutP _ _ _ _ _; rw [HAS.out]; exact HP.out, Nat.le_refl _, HZ2.out, HB2.out⟩
        case measure => simp [intOf]; omega
end Go.Proofs.Sat
