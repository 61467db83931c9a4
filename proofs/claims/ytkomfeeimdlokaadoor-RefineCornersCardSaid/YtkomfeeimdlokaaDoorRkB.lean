/- For RefineCorners: the walk of ref45.Samples. -/
import Derived.Test.YtkomfeeimdlokaaDoorRkA
set_option linter.unusedVariables false
set_option linter.unusedSimpArgs false
namespace Go.Proofs.Sat
open Go Go.RowKit
abbrev encV (x : ByteArray × Int) : List Value := [.string x.1, .int .i64 x.2]
abbrev encB (x : ByteArray × Int) : List Value := [.string x.1, .int .u64 x.2]
def kVar : Kd (ByteArray × Int) := Kd.flat encV 2 (fun _ => rfl) (fun x u hu => by
  simp only [encV, List.mem_cons, List.not_mem_nil, or_false] at hu
  rcases hu with rfl | rfl <;> rfl)
def kBind : Kd (ByteArray × Int) := Kd.flat encB 2 (fun _ => rfl) (fun x u hu => by
  simp only [encB, List.mem_cons, List.not_mem_nil, or_false] at hu
  rcases hu with rfl | rfl <;> rfl)
theorem kBind_any {S S' : Nat → Prop} {w w' : World} : ∀ cs x, kBind.K S w cs x → kBind.K S' w' cs x := fun _ _ h => h
theorem kVar_any {S S' : Nat → Prop} {w w' : World} : ∀ cs x, kVar.K S w cs x → kVar.K S' w' cs x := fun _ _ h => h
theorem infoVar : ElemInfo Tryd.prog 44 46 (.agg #[.string ByteArray.empty, .int .i64 0]) 2 24 := ⟨Tryd.underlying44, by kernel_rfl, rfl, by decide⟩
theorem infoBind : ElemInfo Tryd.prog 49 51 (.agg #[.string ByteArray.empty, .int .u64 0]) 2 24 := ⟨Tryd.underlying49, by kernel_rfl, rfl, by decide⟩
theorem infoBinds : ElemInfo Tryd.prog 47 49 (.slice none 0 0) 1 24 := ⟨Tryd.underlying47, by kernel_rfl, rfl, by decide⟩
theorem var_elem {S : Nat → Prop} {w : World} {a : Option Addr} {c : Nat} {l : List (ByteArray × Int)} (h : Rd kVar S w a c l) {j : Nat} (hj : j < l.length) : ∃ b o, a = some ⟨b, o, none⟩ ∧ S b ∧ b < w.heap.size ∧ w.cell? ⟨b, o + j * 2, none⟩ = some (.string l[j].1) ∧ w.cell? ⟨b, o + j * 2 + 1, none⟩ = some (.int .i64 l[j].2) := by
  obtain ⟨b, o, cs, ha, hS, hb, hk, hc⟩ := h.elem hj
  have hcs : cs = encV l[j] := hk
  subst hcs
  exact ⟨b, o, ha, hS, hb, hc 0 _ rfl, hc 1 _ rfl⟩
theorem bind_elem {S : Nat → Prop} {w : World} {a : Option Addr} {c : Nat} {l : List (ByteArray × Int)} (h : Rd kBind S w a c l) {j : Nat} (hj : j < l.length) : ∃ b o, a = some ⟨b, o, none⟩ ∧ S b ∧ b < w.heap.size ∧ w.cell? ⟨b, o + j * 2, none⟩ = some (.string l[j].1) ∧ w.cell? ⟨b, o + j * 2 + 1, none⟩ = some (.int .u64 l[j].2) := by
  obtain ⟨b, o, cs, ha, hS, hb, hk, hc⟩ := h.elem hj
  have hcs : cs = encB l[j] := hk
  subst hcs
  exact ⟨b, o, ha, hS, hb, hc 0 _ rfl, hc 1 _ rfl⟩
/-- A value of a sample, and the next state. -/
def smV (k W s : Nat) : Nat × Nat := if k ≤ 3 then (fixN k W, s) else (nextN s / 65536 % 2 ^ W, nextN s)
def smStep (k : Nat) (a : List (ByteArray × Int) × Nat) (v : ByteArray × Int) : List (ByteArray × Int) × Nat := (a.1 ++ [(v.1, ((smV k (widE v.2) a.2).1 : Int))], (smV k (widE v.2) a.2).2)
def smRow (k : Nat) (vs : List (ByteArray × Int)) (s : Nat) : List (ByteArray × Int) × Nat := vs.foldl (smStep k) ([], s)
def smAll (vs : List (ByteArray × Int)) (M s : Nat) : List (List (ByteArray × Int)) × Nat := (List.range M).foldl (fun a k => (a.1 ++ [(smRow k vs a.2).1], (smRow k vs a.2).2)) ([], s)
theorem smRow_succ (k : Nat) (vs : List (ByteArray × Int)) (s : Nat) {i : Nat} (hi : i < vs.length) : smRow k (vs.take (i + 1)) s = smStep k (smRow k (vs.take i) s) vs[i] := by
  unfold smRow
  rw [List.take_succ_eq_append_getElem hi, List.foldl_append]
  rfl
theorem smAll_succ (vs : List (ByteArray × Int)) (M s : Nat) : smAll vs (M + 1) s = ((smAll vs M s).1 ++ [(smRow M vs (smAll vs M s).2).1], (smRow M vs (smAll vs M s).2).2) := by
  unfold smAll
  rw [List.range_succ, List.foldl_append]
  rfl
theorem smRow_len (k : Nat) (s : Nat) : ∀ (vs : List (ByteArray × Int)) (a : List (ByteArray × Int) × Nat), (vs.foldl (smStep k) a).1.length = a.1.length + vs.length
  | [], a => rfl
  | v :: vs, a => by
    show (vs.foldl (smStep k) (smStep k a v)).1.length = _
    rw [smRow_len k s vs]
    unfold smStep
    simp
    omega
theorem smRow_length (k : Nat) (vs : List (ByteArray × Int)) (s : Nat) : (smRow k vs s).1.length = vs.length := by
  unfold smRow
  rw [smRow_len k s]
  simp
theorem smAll_length (vs : List (ByteArray × Int)) (s : Nat) : ∀ M, (smAll vs M s).1.length = M
  | 0 => rfl
  | M + 1 => by rw [smAll_succ]; simp [smAll_length vs s M]
theorem smV_lt (k W : Nat) {s : Nat} (hs : s < 18446744073709551616) : (smV k W s).2 < 18446744073709551616 := by
  unfold smV
  split
  · exact hs
  · exact nextN_lt s
theorem smRow_lt (k : Nat) : ∀ (vs : List (ByteArray × Int)) (a : List (ByteArray × Int) × Nat), a.2 < 18446744073709551616 → (vs.foldl (smStep k) a).2 < 18446744073709551616
  | [], a, h => h
  | v :: vs, a, h => smRow_lt k vs (smStep k a v) (smV_lt k _ h)
theorem smAll_lt (vs : List (ByteArray × Int)) {s : Nat} (hs : s < 18446744073709551616) : ∀ M, (smAll vs M s).2 < 18446744073709551616
  | 0 => hs
  | M + 1 => by rw [smAll_succ]; exact smRow_lt M vs _ (smAll_lt vs hs M)
def numM (N : Int) : Nat := (min (max N 0) 256).toNat
/-- A row of one's own as an element of another. -/
theorem own_elemF {α : Type} {d : Kd α} {e0 e : TypeId} {S : Nat → Prop} {W W' : World} {H : Nat} {v u : Value} {xs : List (List α)} {l : List α} {dd : Kd (List α)} (hu : Own dd e S W H u xs) (hs : W.heap.size ≤ W'.heap.size) (ho : Own d e0 NoS W' W.heap.size v l) (hH : H ≤ W.heap.size) :
    (Kd.slice d).K (fun b => H ≤ b ∧ some b ≠ u.ownBlock) W' [v] l := by
  refine (Kd.slice d).mono (fun b _ hb => ?_) ho.kind
  rcases hb with hb | hb
  · exact hb.elim
  · refine ⟨Nat.le_trans hH hb, fun e => ?_⟩
    have := (hu.lt b e.symm).2
    omega
set_option maxRecDepth 20000 in
set_option maxHeartbeats 4000000 in
theorem ref45_Samples (S : Nat → Prop) (vs : List (ByteArray × Int)) (a : Option Addr) (ca : Nat) (N : Int) (s : Nat) (w : World) (h : Rd kVar S w a ca vs) (hv : vs.length ≤ 16) (hw : ∀ v ∈ vs, 1 ≤ v.2 ∧ v.2 ≤ 64) (hs : s < 18446744073709551616) :
    Calls Tryd.prog 15 #[.slice a vs.length ca, .int .i64 N, .int .u64 (s : Int)] w fun e w' => ∃ v, e = .returned v ∧ Own (Kd.slice kBind) 49 (fun b => w.heap.size ≤ b) w' w.heap.size v (smAll vs (numM N) s).1 ∧ Below w.heap.size w w' := by
  have HR := Lib.hid h
  have HW := Lib.hid hw
  obtain ⟨M, hM⟩ : ∃ M, M = numM N := ⟨_, rfl⟩
  have hMN : min (max N 0) 256 = (M : Int) := by rw [hM]; unfold numM; omega
  have hM2 : M ≤ 256 := by rw [hM]; unfold numM; omega
  rw [← hM]
  clear h hw hM
  go_enter Tryd.func15, Tryd.ntmps15
  go_wp2_with fail
  go_loopw [2, 7, 8] (fun sd v i wr => ∃ k s' : Nat, k ≤ M ∧ sd = .int .u64 (s' : Int) ∧ i = .int .i64 k ∧ Hid (s' = (smAll vs k s).2) ∧ Hid (Own (Kd.slice kBind) 49 (fun b => w.heap.size ≤ b) wr w.heap.size v (smAll vs k s).1) ∧ Hid (Below w.heap.size w wr)) (fun _ _ i _ => M - (intOf i).toNat)
  case atStart => exact ⟨0, s, by omega, rfl, rfl, rfl, Own.nil _ _ _ _ _, Below.refl _ _⟩
  case round =>
    obtain ⟨k, s', hk, rfl, rfl, HS, HO, HB⟩ := hrel
    by_cases hlt : k < M
    case neg =>
      have hnl : ¬ ((k : Int) < (M : Int)) := by omega
      have h5 := HO.out
      rw [show k = M by omega] at h5
      have H5 := Lib.hid h5
      clear h5 hlt hk HO
      go_wp2_with fail
      go_ret
      exact ⟨_, rfl, H5.out, HB.out⟩
    have hs' : s' < 18446744073709551616 := by rw [HS.out]; exact smAll_lt vs hs k
    have HAS := Lib.hid (smAll_succ vs k s)
    rw [← HS.out] at HAS
    have HAL := Lib.hid (smAll_length vs s k)
    have hbs := HB.out.size
    generalize (smAll vs k s).1 = X at *
    obtain ⟨W0, hW0⟩ : ∃ W0, W0 = wr := ⟨_, rfl⟩
    subst hW0
    go_wp2_with fail
    go_loopw [2, 9, 10] (fun sd v i wr => ∃ j t : Nat, j ≤ vs.length ∧ sd = .int .u64 (t : Int) ∧ i = .int .i64 j ∧ Hid (t = (smRow k (vs.take j) s').2) ∧ Hid (Own kBind 51 NoS wr W0.heap.size v (smRow k (vs.take j) s').1) ∧ Hid (Below W0.heap.size W0 wr)) (fun _ _ i _ => vs.length - (intOf i).toNat)
    case atStart => exact ⟨0, s', by omega, rfl, rfl, rfl, Own.nil _ _ _ _ _, Below.refl _ _⟩
    case round =>
      obtain ⟨j, t, hj, rfl, rfl, HT, HL, HB2⟩ := hrel
      by_cases hjl : j < vs.length
      · obtain ⟨b, o, rfl, -, -, d0, d1⟩ := var_elem ((HR.out.frame (Same.below HB.out)).frame (Same.below HB2.out)) hjl
        have hwd := HW.out _ (List.getElem_mem hjl)
        have HROW := Lib.hid (smRow_succ k vs s' hjl)
        have hxl : (smRow k (vs.take j) s').1.length ≤ 16 := by rw [smRow_length, List.length_take]; omega
        have HSR : Hid (smRow k (vs.take j) s' = ((smRow k (vs.take j) s').1, t)) := by show _ = _; rw [HT.out]
        have ht : t < 18446744073709551616 := by rw [HT.out]; exact smRow_lt k _ _ hs'
        rw [HSR.out] at HROW
        clear HSR HT
        generalize (smRow k (vs.take j) s').1 = X2 at *
        generalize vs[j] = v at *
        obtain ⟨nm, wd⟩ := v
        obtain ⟨hw1, hw2⟩ := hwd
        replace hw1 : 1 ≤ wd := hw1
        replace hw2 : wd ≤ 64 := hw2
        obtain ⟨n, rfl⟩ := Int.eq_ofNat_of_zero_le (show 0 ≤ wd by omega)
        have hwe : widE (n : Int) = n := by unfold widE; omega
        have hst : smStep k (X2, t) (nm, (n : Int)) = (X2 ++ [(nm, ((smV k n t).1 : Int))], (smV k n t).2) := by unfold smStep; rw [hwe]
        rw [hst] at HROW
        clear hst hwe
        have hn1 : 1 ≤ n := by omega
        have hn2 : n ≤ 64 := by omega
        have t16 : decide ((j : Int) < 16) = true := decide_eq_true (by omega)
        have tj : decide ((j : Int) < (vs.length : Int)) = true := decide_eq_true (by omega)
        have C1 := Lib.hid (fun W => ref01_W n W hn1 hn2)
        have C2 := Lib.hid (fun W => ref45_fixed k n W hn1 hn2)
        obtain ⟨a4, c4, rfl⟩ := HL.out.form
        go_wp2_with fail
        refine (C1.out _).mono ?_
        rintro e w1 ⟨rfl, e1⟩
        have E1 := Lib.hid e1
        clear e1
        go_wp2_with fail
        refine (C2.out _).mono ?_
        rintro e w2 ⟨rfl, e2⟩
        have E2 := Lib.hid (E1.out.trans e2)
        clear e2
        by_cases hk3 : k ≤ 3
        · have t3 : decide ((3 : Int) < (k : Int)) = false := decide_eq_false (by omega)
          have t3' : decide ((k : Int) > 3) = false := decide_eq_false (by omega)
          have HV : Hid (smV k n t = (fixN k n, t)) := by show _ = _; unfold smV; rw [if_pos hk3]
          rw [HV.out] at HROW
          have d2 := E2.out.cell d0
          have HL2 := Lib.hid (HL.out.drawn E2.out)
          have B2 := Lib.hid (HB2.out.trans (E2.out.below _))
          generalize fixN k n = V at *
          clear hk3
          go_wp2_with (first
            | (at_builtin; refine wpList_append_ev _ rfl _ _ 49 rfl _ _ rfl rfl _ (run_app1 w2 infoBind rfl _ HL2.out 51 [.string nm, .int .u64 (V : Int)] (nm, (V : Int)) rfl (by omega) (by omega) B2.out.size) ?_; rintro n5 w5 ⟨ow5, g5, v5, _⟩; have B5 := Lib.hid (B2.out.grown g5 B2.out.size (fun k hk => (HL2.out.lt k hk).1)); have O5 := Lib.hid ow5; clear ow5 g5 v5)
            | fail)
          go_roundw
          case rel => exact ⟨j + 1, t, by omega, rfl, by go_num, by show _ = _; rw [HROW.out], by show Own _ _ _ _ _ _ _; rw [HROW.out]; exact O5.out, B5.out⟩
          case measure => simp [intOf]; omega
        · have t3 : decide ((3 : Int) < (k : Int)) = true := decide_eq_true (by omega)
          have t3' : decide ((k : Int) > 3) = true := decide_eq_true (by omega)
          have HV : Hid (smV k n t = (nextN t / 65536 % 2 ^ n, nextN t)) := by show _ = _; unfold smV; rw [if_neg hk3]
          rw [HV.out] at HROW
          have C3 := Lib.hid (fun W => ref45_Next t W)
          have hq := nextN_lt t
          have C4 := fun W => ref01_Cut n (nextN t / 65536) W hn1 hn2 (by omega)
          generalize nextN t = q at *
          rw [show ((q / 65536 : Nat) : Int) = (q : Int) / 65536 by omega] at C4
          replace C4 := Lib.hid C4
          generalize q / 65536 % 2 ^ n = V at *
          clear hk3
          go_wp2_with fail
          refine (C3.out _).mono ?_
          rintro e w3 ⟨rfl, e3⟩
          have E3 := Lib.hid (E2.out.trans e3)
          clear e3
          go_wp2_with fail
          refine (C4.out _).mono ?_
          rintro e w4 ⟨rfl, e4⟩
          have E4 := Lib.hid (E3.out.trans e4)
          clear e4
          have d2 := E4.out.cell d0
          have HL2 := Lib.hid (HL.out.drawn E4.out)
          have B2 := Lib.hid (HB2.out.trans (E4.out.below _))
          go_wp2_with (first
            | (at_builtin; refine wpList_append_ev _ rfl _ _ 49 rfl _ _ rfl rfl _ (run_app1 w4 infoBind rfl _ HL2.out 51 [.string nm, .int .u64 (V : Int)] (nm, (V : Int)) rfl (by omega) (by omega) B2.out.size) ?_; rintro n5 w5 ⟨ow5, g5, v5, _⟩; have B5 := Lib.hid (B2.out.grown g5 B2.out.size (fun k hk => (HL2.out.lt k hk).1)); have O5 := Lib.hid ow5; clear ow5 g5 v5)
            | fail)
          go_roundw
          case rel => exact ⟨j + 1, q, by omega, rfl, by go_num, by show _ = _; rw [HROW.out], by show Own _ _ _ _ _ _ _; rw [HROW.out]; exact O5.out, B5.out⟩
          case measure => simp [intOf]; omega
      · have tj : decide ((j : Int) < (vs.length : Int)) = false := decide_eq_false (by omega)
        have hnl : ¬ ((j : Int) < (vs.length : Int)) := by omega
        have e1 : vs.take j = vs := List.take_of_length_le (by omega)
        rw [e1] at HT HL
        have HX : Hid ((Kd.slice kBind).K (fun b => w.heap.size ≤ b ∧ some b ≠ _) wr [_] (smRow k vs s').1) := own_elemF HO.out HB2.out.size HL.out hbs
        have HO2 := Lib.hid (HO.out.below HB2.out)
        have BB := Lib.hid (below_both HB.out HB2.out)
        have hxl : X.length ≤ 256 := by have := HAL.out; omega
        clear e1 hjl hj
        generalize (smRow k vs s').1 = X2 at *
        obtain ⟨a4, c4, rfl⟩ := HL.out.form
        obtain ⟨a6, c6, rfl⟩ := HO2.out.form
        go_wp2_with (first
          | (at_builtin; refine wpList_append_ev _ rfl _ _ 47 rfl _ _ rfl rfl _ (run_app1 wr infoBinds rfl _ HO2.out 49 [.slice a4 X2.length c4] _ HX.out (by omega) (by omega) BB.out.size) ?_; rintro n5 w5 ⟨ow5, g5, v5, _⟩; have B5 := Lib.hid (BB.out.grown g5 BB.out.size (fun k hk => (HO2.out.lt k hk).1)); have O5 := Lib.hid ow5; clear ow5 g5 v5)
          | fail)
        go_roundw
        case rel => exact ⟨k + 1, t, by omega, rfl, by go_num, by show _ = _; rw [HAS.out, HT.out], by show Own _ _ _ _ _ _ _; rw [HAS.out]; exact O5.out, B5.out⟩
        case measure => simp [intOf]; omega
end Go.Proofs.Sat
