/- ParseList of the reference. -/
import Derived.Test.YtdncgkmbglmifaaDoorDgK
set_option linter.unusedVariables false
set_option linter.unusedSimpArgs false
namespace Go.Proofs.Sat
open Go Go.RowKit
def glue (p : List UInt8) : List (List UInt8) → List (List UInt8)
  | [] => [p]
  | h :: t => (p ++ h) :: t
/-- The parts between single spaces. -/
def spl (s : UInt8) : List UInt8 → List (List UInt8)
  | [] => [[]]
  | c :: r => if c = s then [] :: spl s r else glue [c] (spl s r)
theorem glue_glue (p q : List UInt8) (x : List (List UInt8)) : glue p (glue q x) = glue (p ++ q) x := by cases x <;> simp [glue]
theorem glue_ne (p : List UInt8) (x : List (List UInt8)) : glue p x ≠ [] := by cases x <;> simp [glue]
theorem spl_ne (s : UInt8) (l : List UInt8) : spl s l ≠ [] := by
  cases l with
  | nil => simp [spl]
  | cons c r => unfold spl; split <;> simp [glue_ne]
theorem glue_nil {x : List (List UInt8)} (h : x ≠ []) : glue [] x = x := by cases x <;> simp_all [glue]
theorem spl_len (s : UInt8) (l : List UInt8) : (spl s l).length ≤ l.length + 1 := by
  induction l with
  | nil => simp [spl]
  | cons c r ih =>
    unfold spl
    split
    · simp; omega
    · cases h : spl s r with
      | nil => simp [glue]
      | cons a b => rw [h] at ih; simp [glue] at ih ⊢; omega
/-- The first error of a list of parts. -/
def plE : List (List UInt8) → Int
  | [] => 0
  | p :: r => if pinE p = 0 then plE r else pinE p
theorem plE_done {a : List (List UInt8)} (h : ∀ p ∈ a, pinE p = 0) (b : List (List UInt8)) : plE (a ++ b) = plE b := by
  induction a with
  | nil => rfl
  | cons p r ih =>
    rw [List.cons_append, plE, if_pos (h p (by simp))]
    exact ih (fun q hq => h q (by simp [hq]))
def plErr (l : List UInt8) : Int := if l = [] then 0 else plE (spl 32 l)
def plV (l : List UInt8) : List Int := if l = [] then [] else if plE (spl 32 l) = 0 then (spl 32 l).map pinV else []
theorem plV_bad {l : List UInt8} {done rest : List (List UInt8)} {p : List UInt8} (hne : l ≠ []) (hd : ∀ q ∈ done, pinE q = 0) (hs : spl 32 l = done ++ p :: rest) (hp : pinE p ≠ 0) : plErr l = pinE p ∧ plV l = [] := by
  have h : plE (spl 32 l) = pinE p := by rw [hs, plE_done hd, plE, if_neg hp]
  unfold plErr plV
  rw [if_neg hne, if_neg hne, h, if_neg hp]
  exact ⟨rfl, rfl⟩
theorem plV_good {l : List UInt8} {done : List (List UInt8)} (hne : l ≠ []) (hd : ∀ q ∈ done, pinE q = 0) (hs : spl 32 l = done) : plErr l = 0 ∧ plV l = done.map pinV := by
  have h : plE (spl 32 l) = 0 := by rw [hs, ← List.append_nil done, plE_done hd]; rfl
  unfold plErr plV
  rw [if_neg hne, if_neg hne, h, if_pos rfl, hs]
  exact ⟨rfl, rfl⟩
/-- Where a scan stands. -/
def PlAt (s : UInt8) (l : List UInt8) (done : List (List UInt8)) (f i : Nat) : Prop :=
  (i ≤ l.length → f ≤ i ∧ spl s l = done ++ glue ((l.drop f).take (i - f)) (spl s (l.drop i))) ∧ (i = l.length + 1 → spl s l = done)
theorem plAt_start (s : UInt8) (l : List UInt8) : PlAt s l [] 0 0 := by
  refine ⟨fun _ => ⟨Nat.le_refl _, ?_⟩, fun h => by omega⟩
  simp [glue_nil (spl_ne s l)]
theorem plAt_on {s : UInt8} {l : List UInt8} {done : List (List UInt8)} {f i : Nat} (h : PlAt s l done f i) (hi : i < l.length) (hc : l[i] ≠ s) : PlAt s l done f (i + 1) := by
  obtain ⟨hf, hs⟩ := h.1 (by omega)
  refine ⟨fun _ => ⟨by omega, ?_⟩, fun h => by omega⟩
  have e : (l.drop f).take (i + 1 - f) = (l.drop f).take (i - f) ++ [l[i]] := by
    rw [show i + 1 - f = (i - f) + 1 by omega, List.take_succ_eq_append_getElem (by rw [List.length_drop]; omega)]
    congr 2
    rw [List.getElem_drop]
    congr 1
    omega
  rw [hs, e, ← glue_glue, List.drop_eq_getElem_cons hi]
  conv => lhs; unfold spl
  rw [if_neg hc]
theorem plAt_cut {s : UInt8} {l : List UInt8} {done : List (List UInt8)} {f i : Nat} (h : PlAt s l done f i) (hi : i ≤ l.length) (hc : ∀ h : i < l.length, l[i] = s) :
    ∃ rest, spl s l = done ++ (l.drop f).take (i - f) :: rest ∧ PlAt s l (done ++ [(l.drop f).take (i - f)]) (i + 1) (i + 1) := by
  obtain ⟨hf, hs⟩ := h.1 hi
  by_cases hlt : i < l.length
  · have hd : spl s (l.drop i) = [] :: spl s (l.drop (i + 1)) := by
      rw [List.drop_eq_getElem_cons hlt]
      conv => lhs; unfold spl
      rw [if_pos (hc hlt)]
    rw [hd] at hs
    refine ⟨spl s (l.drop (i + 1)), by rw [hs]; simp [glue], fun _ => ⟨Nat.le_refl _, ?_⟩, fun h => by omega⟩
    rw [Nat.sub_self, List.take_zero, glue_nil (spl_ne s _), hs]
    simp [glue]
  · have hd : spl s (l.drop i) = [[]] := by rw [List.drop_of_length_le (by omega)]; rfl
    rw [hd] at hs
    refine ⟨[], by rw [hs]; simp [glue], fun h => by omega, fun _ => ?_⟩
    rw [hs]
    simp [glue]
set_option maxRecDepth 20000 in
set_option maxHeartbeats 2000000 in
theorem ref02_ParseList (l : List UInt8) (w : World) (hl : l.length ≤ 1099511627776) : Calls Tryd.prog 15 #[.string (strOf l)] w fun e w' => ∃ v, e = .returned (.tuple #[v, .int .i64 (plErr l)]) ∧ Own (Kd.int .i64) 3 NoS w' w.heap.size v (plV l) ∧ Below w.heap.size w w' := by
  have hts := toList_strOf l
  have hsz := strOf_size l
  go_enter Tryd.func15, Tryd.ntmps15
  by_cases hne : l = []
  · subst hne
    go_wp2_with fail
    go_ret2
    exact ⟨_, rfl, Own.nil _ _ _ _ _, Below.refl _ _⟩
  have t0 : (l == []) = false := by rw [beq_eq_false_iff_ne]; exact hne
  obtain ⟨n, hn⟩ : ∃ n, n = l.length := ⟨_, rfl⟩
  rw [← hn] at hsz hl
  have HN := Lib.hid hn
  have HNE := Lib.hid hne
  clear hn hne
  go_wp2_with fail
  clear t0
  go_loopw [4, 5, 6] (fun v fs is wr => ∃ (i f : Nat) (done : List (List UInt8)), i ≤ n + 1 ∧ fs = .int .i64 f ∧ is = .int .i64 i ∧ f ≤ i ∧ done.length ≤ i ∧ Hid (PlAt 32 l done f i) ∧ Hid (∀ q ∈ done, pinE q = 0) ∧ Hid (Own (Kd.int .i64) 3 NoS wr w.heap.size v (done.map pinV)) ∧ Hid (Below w.heap.size w wr)) (fun _ _ is _ => n + 1 - (intOf is).toNat)
  case atStart => exact ⟨0, 0, [], by omega, rfl, rfl, by omega, by simp, plAt_start _ _, fun q hq => (by cases hq), Own.nil _ _ _ _ _, by first | exact Below.refl _ _ | exact (Drawn.of _ _).below _⟩
  case round =>
    obtain ⟨i, f, done, hi, rfl, rfl, hfi, hdi, HP, HDN, O4, B4⟩ := hrel
    by_cases hin : i ≤ n
    · have hinI : (i : Int) ≤ (n : Int) := by omega
      have hfiI : (f : Int) ≤ (i : Int) := by omega
      by_cases hgo : ∃ h : i < l.length, l[i] ≠ 32
      · obtain ⟨h1, h2⟩ := hgo
        have HP2 := Lib.hid (plAt_on HP.out h1 h2)
        have hix := str_index 9 Tryd.underlying9 l i h1
        have h1n : i < n := by rw [HN.out]; exact h1
        have t1 : decide (i < n) = true := decide_eq_true h1n
        have t2 : decide ((i : Int) < (n : Int)) = true := decide_eq_true (by omega)
        have t3 : ((l[i].toNat : Int) != 32) = true := by
          rw [bne_iff_ne]
          intro h
          apply h2
          apply UInt8.toNat_inj.1
          show l[i].toNat = 32
          omega
        generalize l[i].toNat = z at *
        clear h1 h2 HP
        go_wp2_with fail
        go_roundw
        case rel => exact ⟨i + 1, f, done, by omega, rfl, by go_num, by omega, by omega, HP2.out, HDN.out, O4.out, B4.out⟩
        case measure => simp [intOf]; omega
      · have hc : ∀ h : i < l.length, l[i] = 32 := fun h => by
          by_cases h2 : l[i] = 32
          · exact h2
          · exact absurd ⟨h, h2⟩ hgo
        obtain ⟨rest, hsp, hat⟩ := plAt_cut HP.out (by rw [← HN.out]; exact hin) hc
        have HSP := Lib.hid hsp
        have HAT := Lib.hid hat
        have hex : (strOf l).extract f i = strOf ((l.drop f).take (i - f)) := strOf_extract l f i
        have CP := Lib.hid (fun W => ref02_ParseInt ((l.drop f).take (i - f)) W (by rw [List.length_take]; omega))
        have hway : (decide (i < n) = true ∧ decide ((i : Int) < (n : Int)) = true ∧ ∃ z : Nat, (∀ W : World, (Instr.index 9 (.string (strOf l)) (.int .i64 (i : Int))).run Tryd.prog W = .ok (.int .u8 (z : Int)) W) ∧ i < n ∧ ((z : Int) != 32) = false) ∨ (decide (i < n) = false ∧ decide ((i : Int) < (n : Int)) = false) := by
          by_cases h : i < n
          · left
            have h1 : i < l.length := by rw [← HN.out]; exact h
            refine ⟨decide_eq_true h, decide_eq_true (by omega), l[i].toNat, str_index 9 Tryd.underlying9 l i h1, h, ?_⟩
            rw [hc h1]; rfl
          · right; exact ⟨decide_eq_false h, decide_eq_false (by omega)⟩
        clear hsp hat hgo hc HP
        generalize (l.drop f).take (i - f) = p at *
        by_cases he : pinE p = 0
        · have t5 : (pinE p != 0) = false := by rw [he]; rfl
          rw [he] at CP t5
          have HDN2 : Hid (∀ q ∈ done ++ [p], pinE q = 0) := fun q hq => by
            rcases List.mem_append.1 hq with hq | hq
            · exact HDN.out q hq
            · rw [List.mem_singleton.1 hq]; exact he
          have HMP : Hid ((done ++ [p]).map pinV = done.map pinV ++ [pinV p]) := by show _ = _; rw [List.map_append]; rfl
          have hXl : (done.map pinV).length ≤ 1099511627777 := by rw [List.length_map]; omega
          have hdl : (done ++ [p]).length ≤ i + 1 := by rw [List.length_append, List.length_singleton]; omega
          generalize done.map pinV = X at *
          generalize pinV p = pv at *
          clear he HDN
          obtain ⟨a4, c4, rfl⟩ := O4.out.form
          rcases hway with ⟨t1, t2, z, hix, hz, t3⟩ | ⟨t1, t2⟩
          all_goals
            go_wp2_with (first
              | (go_at_call 13; refine (CP.out _).mono ?_; rintro e w5 ⟨rfl, d5⟩; have O5 := Lib.hid (O4.out.below (d5.below _)); have B5 := Lib.hid (B4.out.trans (d5.below _)); clear d5)
              | (at_builtin; refine wpList_append_ev _ rfl _ _ 30 rfl _ _ rfl rfl _ (run_app1 w5 infoInt rfl _ O5.out 3 [.int .i64 pv] pv rfl (by omega) (by omega) B5.out.size) ?_; rintro n2 w6 ⟨ow2, g2, v2, _⟩; have B6 := Lib.hid (B5.out.grown g2 B5.out.size (fun k hk => (O5.out.lt k hk).1)); have O6 := Lib.hid ow2; clear ow2 g2 v2)
              | fail)
            go_roundw
            case rel => exact ⟨i + 1, i + 1, done ++ [p], by omega, by go_num, by go_num, by omega, hdl, HAT.out, HDN2.out, by rw [HMP.out]; exact O6.out, B6.out⟩
            case measure => simp [intOf]; omega
        · have t5 : (pinE p != 0) = true := by rw [bne_iff_ne]; exact he
          have HE := Lib.hid (plV_bad HNE.out HDN.out HSP.out he)
          generalize pinE p = pe at *
          clear he HDN
          rcases hway with ⟨t1, t2, z, hix, hz, t3⟩ | ⟨t1, t2⟩
          all_goals
            go_wp2_with (first
              | (go_at_call 13; refine (CP.out _).mono ?_; rintro e w5 ⟨rfl, d5⟩; have B5 := Lib.hid (B4.out.trans (d5.below _)); clear d5)
              | fail)
            go_ret2
            exact ⟨_, by rw [HE.out.1]; rfl, by rw [HE.out.2]; exact Own.nil _ _ _ _ _, B5.out⟩
    · have hnl : ¬ ((i : Int) ≤ (n : Int)) := by omega
      have HE := Lib.hid (plV_good HNE.out HDN.out (HP.out.2 (by rw [← HN.out]; omega)))
      clear hin
      go_wp2_with fail
      go_ret2
      exact ⟨_, by rw [HE.out.1]; rfl, by rw [HE.out.2]; exact O4.out, B4.out⟩
end Go.Proofs.Sat
