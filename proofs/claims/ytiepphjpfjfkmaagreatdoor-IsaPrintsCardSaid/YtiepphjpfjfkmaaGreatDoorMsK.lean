/- MsI, MsJ, MsK, one after the other. -/
import Derived.Test.YtiepphjpfjfkmaaGreatDoorMsG
import Derived.Test.YtiepphjpfjfkmaaGreatDoorDgN
set_option linter.unusedVariables false
set_option linter.unusedSimpArgs false
/- Split of the reference; numbers and registers as both read them. -/
namespace Go.Proofs.Sat
open Go Go.RowKit
set_option maxRecDepth 20000 in
set_option maxHeartbeats 2000000 in
theorem ref48_Split (l : List UInt8) (s : UInt8) (w : World) (hl : l.length ≤ 1000000000) : Calls Tryz.prog 39 #[.string (strOf l), .int .u8 (s.toNat : Int)] w fun e w' => ∃ v, e = .returned v ∧ Own Kd.str 9 NoS w' w.heap.size v ((spl s l).map strOf) ∧ Below w.heap.size w w' := by
  have hts := toList_strOf l
  have hsz := strOf_size l
  obtain ⟨n, hn⟩ : ∃ n, n = l.length := ⟨_, rfl⟩
  rw [← hn] at hsz hl
  have HN := Lib.hid hn
  obtain ⟨sn, hsn⟩ : ∃ sn, sn = s.toNat := ⟨_, rfl⟩
  have HSN := Lib.hid hsn
  rw [← hsn]
  clear hn hsn
  go_enter Tryz.func39, Tryz.ntmps39
  go_wp2_with fail
  go_loopw [5, 6, 7] (fun v fs is wr => ∃ (i f : Nat) (done : List (List UInt8)), i ≤ n + 1 ∧ fs = .int .i64 f ∧ is = .int .i64 i ∧ f ≤ i ∧ done.length ≤ i ∧ Hid (PlAt s l done f i) ∧ Hid (Own Kd.str 9 NoS wr w.heap.size v (done.map strOf)) ∧ Hid (Below w.heap.size w wr)) (fun _ _ is _ => n + 1 - (intOf is).toNat)
  case atStart => exact ⟨0, 0, [], by omega, rfl, rfl, by omega, by simp, plAt_start _ _, Own.nil _ _ _ _ _, by first | exact Below.refl _ _ | exact (Drawn.of _ _).below _⟩
  case round =>
    obtain ⟨i, f, done, hi, rfl, rfl, hfi, hdi, HP, O4, B4⟩ := hrel
    by_cases hin : i ≤ n
    · have hinI : (i : Int) ≤ (n : Int) := by omega
      have hfiI : (f : Int) ≤ (i : Int) := by omega
      by_cases hgo : ∃ h : i < l.length, l[i] ≠ s
      · obtain ⟨h1, h2⟩ := hgo
        have HP2 := Lib.hid (plAt_on HP.out h1 h2)
        have hix := str_index 9 Tryz.underlying9 l i h1
        have h1n : i < n := by rw [HN.out]; exact h1
        have t1 : (i == n) = false := by rw [beq_eq_false_iff_ne]; omega
        have t2 : ((i : Int) == (n : Int)) = false := by rw [beq_eq_false_iff_ne]; omega
        have t3 : ((l[i].toNat : Int) == (sn : Int)) = false := by
          rw [beq_eq_false_iff_ne]
          intro h
          apply h2
          apply UInt8.toNat_inj.1
          have := HSN.out
          omega
        have t4 : (l[i].toNat == sn) = false := by
          rw [beq_eq_false_iff_ne]
          intro h
          apply h2
          apply UInt8.toNat_inj.1
          have := HSN.out
          omega
        generalize l[i].toNat = z at *
        clear h1 h2 HP
        go_wp2_with fail
        go_roundw
        case rel => exact ⟨i + 1, f, done, by omega, rfl, by go_num, by omega, by omega, HP2.out, O4.out, B4.out⟩
        case measure => simp [intOf]; omega
      · have hc : ∀ h : i < l.length, l[i] = s := fun h => by
          by_cases h2 : l[i] = s
          · exact h2
          · exact absurd ⟨h, h2⟩ hgo
        obtain ⟨rest, hsp, hat⟩ := plAt_cut HP.out (by rw [← HN.out]; exact hin) hc
        have HAT := Lib.hid hat
        have hex : (strOf l).extract f i = strOf ((l.drop f).take (i - f)) := strOf_extract l f i
        have hway : ((i == n) = false ∧ ((i : Int) == (n : Int)) = false ∧ ∃ z : Nat, (∀ W : World, (Instr.index 9 (.string (strOf l)) (.int .i64 (i : Int))).run Tryz.prog W = .ok (.int .u8 (z : Int)) W) ∧ i < n ∧ ((z : Int) == (sn : Int)) = true ∧ (z == sn) = true) ∨ ((i == n) = true ∧ ((i : Int) == (n : Int)) = true) := by
          by_cases h : i < n
          · left
            have h1 : i < l.length := by rw [← HN.out]; exact h
            refine ⟨by rw [beq_eq_false_iff_ne]; omega, by rw [beq_eq_false_iff_ne]; omega, l[i].toNat, str_index 9 Tryz.underlying9 l i h1, h, ?_, ?_⟩
            · rw [hc h1, HSN.out]; simp
            · rw [hc h1, HSN.out]; simp
          · right; exact ⟨by rw [beq_iff_eq]; omega, by rw [beq_iff_eq]; omega⟩
        clear hsp hat hgo hc HP
        generalize (l.drop f).take (i - f) = p at *
        have HMP : Hid ((done ++ [p]).map strOf = done.map strOf ++ [strOf p]) := by show _ = _; rw [List.map_append]; rfl
        have hXl : (done.map strOf).length ≤ 1000000001 := by rw [List.length_map]; omega
        have hdl : (done ++ [p]).length ≤ i + 1 := by rw [List.length_append, List.length_singleton]; omega
        generalize done.map strOf = X at *
        generalize strOf p = pv at *
        have hb4 := B4.out.size
        obtain ⟨a4, c4, rfl⟩ := O4.out.form
        rcases hway with ⟨t1, t2, z, hix, hz, t3, t4⟩ | ⟨t1, t2⟩
        all_goals
          go_wp2_with (first
            | (at_builtin; refine wpList_append_ev _ rfl _ _ 51 rfl _ _ rfl rfl _ (run_app1 wr infoStr rfl _ O4.out 9 [.string pv] pv rfl (by omega) (by omega) hb4) ?_; rintro n2 w6 ⟨ow2, g2, v2, _⟩; have B6 := Lib.hid (B4.out.grown g2 B4.out.size (fun k hk => (O4.out.lt k hk).1)); have O6 := Lib.hid ow2; clear ow2 g2 v2)
            | fail)
          go_roundw
          case rel => exact ⟨i + 1, i + 1, done ++ [p], by omega, by go_num, by go_num, by omega, hdl, HAT.out, by rw [HMP.out]; exact O6.out, B6.out⟩
          case measure => simp [intOf]; omega
    · have hnl : ¬ ((i : Int) ≤ (n : Int)) := by omega
      have HE := Lib.hid (HP.out.2 (by rw [← HN.out]; omega))
      clear hin
      go_wp2_with fail
      go_ret
      exact ⟨_, rfl, by rw [HE.out]; exact O4.out, B4.out⟩
/-! ### Numbers -/
theorem hex_bad {l : List UInt8} (h : parP l = true) : numE 10 l = 6 := by
  unfold parP Lib.hasPrefix at h
  match l, h with
  | [a], h => simp [List.isPrefixOf] at h
  | a :: b :: r, h =>
    simp [List.isPrefixOf] at h
    obtain ⟨rfl, rfl⟩ := h
    refine (numE_bad ?_).1
    unfold badL
    simp
theorem immW_word (l : List UInt8) : immW l = if parP l = false ∧ parE l = 0 then some (parV l : Int) else none := by
  unfold immW
  cases hp : parP l
  · have he : parE l = numE 10 l := by unfold parE; rw [hp]; rfl
    have hv : parV l = numV 10 l := by unfold parV; rw [hp]; rfl
    rw [he, hv]
    by_cases h : numE 10 l = 0
    · rw [if_pos h, if_pos ⟨rfl, h⟩, numV_val h]
    · rw [if_neg h, if_neg (fun h2 => h h2.2)]
  · rw [if_neg (by rw [hex_bad hp]; decide), if_neg (by simp)]
theorem immW_ref (l : List UInt8) : immW l = if parE l = 0 ∧ wrL 10 (parV l) = l then some (parV l : Int) else none := by
  rw [immW_word]
  by_cases he : parE l = 0
  · cases hp : parP l
    · have hw : wrL 10 (parV l) = l := by
        have h : numE 10 l = 0 := by unfold parE at he; rw [hp] at he; simpa using he
        obtain ⟨h1, h2, h3⟩ := numE_zero h
        have hv : parV l = valL 10 l := by unfold parV; rw [hp, ← h3]; rfl
        rw [hv]
        exact good_wrL (.inl rfl) _ _ (Nat.le_refl _) h1
      rw [if_pos ⟨rfl, he⟩, if_pos ⟨he, hw⟩]
    · rw [if_neg (by simp), if_neg]
      rintro ⟨_, h2⟩
      have := parP_dec (parV l)
      rw [h2, hp] at this
      cases this
  · rw [if_neg (fun h => he h.2), if_neg (fun h => he h.1)]
theorem parV_lt (l : List UInt8) : parV l < 18446744073709551616 := by unfold parV; split <;> exact numV_lt _ _
def optB {α : Type} (o : Option α) : Bool := o.isSome
set_option maxHeartbeats 1000000 in
theorem ref48_decimal (l : List UInt8) (w : World) (hl : l.length ≤ 1099511627776) : Calls Tryz.prog 72 #[.string (strOf l)] w fun e w' => e = .returned (.tuple #[.int .u64 ((immW l).getD 0), .bool (immW l).isSome]) ∧ Drawn w w' := by
  have hts := toList_strOf l
  have CP := Lib.hid (fun W => ref02_Parse l W hl)
  have CD := Lib.hid (fun W => ref02_Dec (parV l) W (parV_lt l))
  have htd := toList_strOf (wrL 10 (parV l))
  have HI := Lib.hid (immW_ref l)
  generalize immW l = o at *
  obtain ⟨x, hx⟩ : ∃ x : Int, x = (parV l : Int) := ⟨_, rfl⟩
  rw [← hx] at CP CD HI
  generalize wrL 10 (parV l) = m at *
  go_enter Tryz.func72, Tryz.ntmps72
  by_cases he : parE l = 0
  · have t0 : (parE l != 0) = false := by rw [he]; rfl
    by_cases hm : m = l
    · have HE : Hid (o = some x) := by show _ = _; rw [HI.out, if_pos ⟨he, hm⟩]
      have t1 : (m == l) = true := by rw [hm]; simp
      generalize parE l = e1 at *
      clear he hm hx hl
      go_wp2_with fail
      refine (CP.out _).mono ?_
      rintro e w1 ⟨rfl, d1⟩
      have D1 := Lib.hid d1
      clear d1
      go_wp2_with fail
      refine (CD.out _).mono ?_
      rintro e w2 ⟨rfl, d2⟩
      have D2 := Lib.hid (D1.out.trans d2)
      clear d2
      go_wp2_with fail
      go_ret2
      exact ⟨by rw [HE.out]; rfl, D2.out⟩
    · have HE : Hid (o = none) := by show _ = _; rw [HI.out, if_neg (fun h => hm h.2)]
      have t1 : (m == l) = false := by rw [beq_eq_false_iff_ne]; exact hm
      generalize parE l = e1 at *
      clear he hm hx hl
      go_wp2_with fail
      refine (CP.out _).mono ?_
      rintro e w1 ⟨rfl, d1⟩
      have D1 := Lib.hid d1
      clear d1
      go_wp2_with fail
      refine (CD.out _).mono ?_
      rintro e w2 ⟨rfl, d2⟩
      have D2 := Lib.hid (D1.out.trans d2)
      clear d2
      go_wp2_with fail
      go_ret2
      exact ⟨by rw [HE.out]; rfl, D2.out⟩
  · have HE : Hid (o = none) := by show _ = _; rw [HI.out, if_neg (fun h => he h.1)]
    have t0 : (parE l != 0) = true := by rw [bne_iff_ne]; exact he
    generalize parE l = e1 at *
    clear he hx hl CD htd
    go_wp2_with fail
    refine (CP.out _).mono ?_
    rintro e w1 ⟨rfl, d1⟩
    have D1 := Lib.hid d1
    clear d1
    go_wp2_with fail
    go_ret2
    exact ⟨by rw [HE.out]; rfl, D1.out⟩
theorem numW_imm (l : List UInt8) : numW l = match immW l with
    | none => none
    | some x => if x < 9223372036854775808 then some x else none := by
  unfold numW immW
  by_cases h : numE 10 l = 0
  · rw [if_pos h]
    dsimp only
    by_cases h2 : valL 10 l < 9223372036854775808
    · rw [if_pos ⟨h, h2⟩, if_pos (by omega)]
    · rw [if_neg (fun h3 => h2 h3.2), if_neg (by omega)]
  · rw [if_neg h, if_neg (fun h3 => h h3.1)]
theorem immW_bound {l : List UInt8} {x : Int} (h : immW l = some x) : 0 ≤ x ∧ x < 18446744073709551616 := (immW_text h).2
set_option maxHeartbeats 1000000 in
theorem ref48_whole (l : List UInt8) (w : World) (hl : l.length ≤ 1099511627776) : Calls Tryz.prog 71 #[.string (strOf l)] w fun e w' => e = .returned (.tuple #[.int .i64 ((numW l).getD 0), .bool (numW l).isSome]) ∧ Drawn w w' := by
  have CD := Lib.hid (fun W => ref48_decimal l W hl)
  have HI := Lib.hid (numW_imm l)
  generalize numW l = o at *
  cases hi : immW l with
  | none =>
    rw [hi] at CD HI
    have HE : Hid (o = none) := HI.out
    clear hi hl
    go_enter Tryz.func71, Tryz.ntmps71
    go_wp2_with fail
    refine (CD.out _).mono ?_
    rintro e w1 ⟨rfl, d1⟩
    have D1 := Lib.hid d1
    clear d1
    go_wp2_with fail
    go_ret2
    exact ⟨by rw [HE.out]; rfl, D1.out⟩
  | some x =>
    rw [hi] at CD HI
    have hb := immW_bound hi
    have CD2 : Hid (∀ W, Calls Tryz.prog 72 #[.string (strOf l)] W fun e w' => e = .returned (.tuple #[.int .u64 x, .bool true]) ∧ Drawn W w') := CD.out
    clear hi hl CD
    by_cases hx : x < 9223372036854775808
    · have HE : Hid (o = some x) := by show _ = _; rw [HI.out]; dsimp only; rw [if_pos hx]
      have t0 : decide (9223372036854775808 ≤ x) = false := decide_eq_false (by omega)
      have hw : IntKind.i64.wrap x = x := IntWalk.i64_in _ (by omega)
      clear hb hx
      go_enter Tryz.func71, Tryz.ntmps71
      go_wp2_with fail
      refine (CD2.out _).mono ?_
      rintro e w1 ⟨rfl, d1⟩
      have D1 := Lib.hid d1
      clear d1
      go_wp2_with fail
      go_ret2
      exact ⟨by rw [HE.out]; rfl, D1.out⟩
    · have HE : Hid (o = none) := by show _ = _; rw [HI.out]; dsimp only; rw [if_neg hx]
      have t0 : decide (9223372036854775808 ≤ x) = true := decide_eq_true (by omega)
      clear hb hx
      go_enter Tryz.func71, Tryz.ntmps71
      go_wp2_with fail
      refine (CD2.out _).mono ?_
      rintro e w1 ⟨rfl, d1⟩
      have D1 := Lib.hid d1
      clear d1
      go_wp2_with fail
      go_ret2
      exact ⟨by rw [HE.out]; rfl, D1.out⟩
theorem numW_pin (l : List UInt8) : numW l = if pinE l = 0 ∧ 0 ≤ pinV l then some (pinV l) else none := by
  unfold numW
  by_cases hm : l.head? = some 45
  · have hb : badL 10 l = true := by
      have hl := minus_form hm
      unfold badL
      rw [Bool.or_eq_true]
      right
      rw [List.any_eq_true]
      exact ⟨45, by rw [hl]; simp, by decide⟩
    rw [if_neg (by rw [(numE_bad hb).1]; rintro ⟨h, _⟩; cases h), if_neg]
    rintro ⟨h1, h2⟩
    have hV : pinV l = -(valL 10 l.tail : Int) := by unfold pinV; rw [if_pos h1, if_pos hm]
    unfold pinE at h1
    rw [if_pos hm] at h1
    split at h1
    · split at h1
      · cases h1
      · omega
    · rename_i h3; exact h3 h1
  · have hE : pinE l = if numE 10 l = 0 then (if 9223372036854775807 < valL 10 l then 2 else 0) else numE 10 l := by unfold pinE; rw [if_neg hm]
    by_cases hn : numE 10 l = 0
    · rw [if_pos hn] at hE
      by_cases hv : valL 10 l < 9223372036854775808
      · have h1 : pinE l = 0 := by rw [hE, if_neg (by omega)]
        have h2 : pinV l = (valL 10 l : Int) := by unfold pinV; rw [if_pos h1, if_neg hm]
        rw [if_pos ⟨hn, hv⟩, if_pos ⟨h1, by omega⟩, h2]
      · rw [if_neg (fun h => hv h.2), if_neg]
        rintro ⟨h1, _⟩
        rw [hE, if_pos (by omega)] at h1
        cases h1
    · rw [if_neg hn] at hE
      rw [if_neg (fun h => hn h.1), if_neg]
      rintro ⟨h1, _⟩
      rw [hE] at h1
      exact hn h1
/-! ### Numbers of package isa -/
set_option maxHeartbeats 1000000 in
theorem isa_number (l : List UInt8) (w : World) (hl : l.length ≤ 1099511627776) (hT : DigT w) : Calls Tryz.prog 68 #[.string (strOf l)] w fun e w' => ∃ n : Int, e = .returned (.tuple #[.int .i64 n, .bool (numW l).isSome]) ∧ (∀ v, numW l = some v → n = v) ∧ Below w.heap.size w w' := by
  have CP := Lib.hid (digits_ParseInt l w hl hT)
  have HI := Lib.hid (numW_pin l)
  generalize numW l = o at *
  generalize pinV l = n at *
  generalize pinE l = er at *
  clear hl hT
  by_cases he : er = 0
  · have t0 : (er == 0) = true := by rw [he]; rfl
    by_cases hn : 0 ≤ n
    · have t1 : decide (0 ≤ n) = true := decide_eq_true hn
      have HE : Hid (o = some n) := by show _ = _; rw [HI.out, if_pos ⟨he, hn⟩]
      clear he hn
      go_enter Tryz.func68, Tryz.ntmps68
      go_wp2_with fail
      refine CP.out.mono ?_
      rintro e w1 ⟨rfl, b1⟩
      have B1 := Lib.hid b1
      clear b1
      go_wp2_with fail
      go_ret2
      exact ⟨n, by rw [HE.out]; rfl, fun v hv => (by rw [HE.out] at hv; exact Option.some.inj hv), B1.out⟩
    · have t1 : decide (0 ≤ n) = false := decide_eq_false hn
      have HE : Hid (o = none) := by show _ = _; rw [HI.out, if_neg (fun h => hn h.2)]
      clear he hn
      go_enter Tryz.func68, Tryz.ntmps68
      go_wp2_with fail
      refine CP.out.mono ?_
      rintro e w1 ⟨rfl, b1⟩
      have B1 := Lib.hid b1
      clear b1
      go_wp2_with fail
      go_ret2
      exact ⟨n, by rw [HE.out]; rfl, fun v hv => (by rw [HE.out] at hv; cases hv), B1.out⟩
  · have t0 : (er == 0) = false := beqf he
    have HE : Hid (o = none) := by show _ = _; rw [HI.out, if_neg (fun h => he h.1)]
    clear he
    go_enter Tryz.func68, Tryz.ntmps68
    go_wp2_with fail
    refine CP.out.mono ?_
    rintro e w1 ⟨rfl, b1⟩
    have B1 := Lib.hid b1
    clear b1
    go_wp2_with fail
    go_ret2
    exact ⟨n, by rw [HE.out]; rfl, fun v hv => (by rw [HE.out] at hv; cases hv), B1.out⟩
theorem cut_r (l : List UInt8) (w : World) : Calls Tryz.prog 85 #[.string (strOf l), .string { data := #[114] }] w fun e w' => e = .returned (.tuple #[.string (strOf (if l.head? = some 114 then l.tail else l)), .bool (decide (l.head? = some 114))]) ∧ w' = w := by
  have h := Tryz.strings_CutPrefix (strOf l) { data := #[114] } w
  refine h.mono ?_
  rintro e w1 ⟨rfl, rfl⟩
  refine ⟨?_, rfl⟩
  show Ending.returned (.tuple #[.string ⟨(Lib.trimPrefix l [114]).toArray⟩, .bool (Lib.hasPrefix l [114])]) = _
  have hp : Lib.hasPrefix l [114] = decide (l.head? = some 114) := by
    unfold Lib.hasPrefix
    cases l with
    | nil => rfl
    | cons c r =>
      simp only [List.isPrefixOf, Bool.and_true, List.head?_cons, Option.some.injEq]
      rw [Bool.eq_iff_iff, beq_iff_eq, decide_eq_true_eq]
      exact eq_comm
  unfold Lib.trimPrefix
  rw [hp]
  by_cases hm : l.head? = some 114
  · rw [if_pos hm, if_pos (decide_eq_true hm), List.length_singleton, List.drop_one]; rfl
  · rw [if_neg hm, if_neg (by simp [hm])]; rfl
theorem regW_head (l : List UInt8) : regW l = if l.head? = some 114 then numW l.tail else none := by
  cases l with
  | nil => rfl
  | cons c r =>
    rw [regW]
    by_cases h : c = 114
    · rw [if_pos h, if_pos (by rw [h]; rfl), List.tail_cons]
    · rw [if_neg h, if_neg (by simpa using h)]
set_option maxHeartbeats 1000000 in
theorem isa_register (l : List UInt8) (w : World) (hl : l.length ≤ 1099511627776) (hT : DigT w) : Calls Tryz.prog 69 #[.string (strOf l)] w fun e w' => ∃ n : Int, e = .returned (.tuple #[.int .i64 n, .bool (regW l).isSome]) ∧ (∀ v, regW l = some v → n = v) ∧ Below w.heap.size w w' := by
  have CC := Lib.hid (cut_r l w)
  have CN := Lib.hid (isa_number l.tail w (by rw [List.length_tail]; omega) hT)
  have HR := Lib.hid (regW_head l)
  generalize regW l = o at *
  by_cases hm : l.head? = some 114
  · rw [if_pos hm, decide_eq_true hm] at CC
    rw [if_pos hm] at HR
    generalize numW l.tail = o2 at *
    generalize l.tail = m at *
    obtain rfl : o = o2 := HR.out
    clear hm hl hT HR
    go_enter Tryz.func69, Tryz.ntmps69
    go_wp2_with fail
    refine CC.out.mono ?_
    rintro e w1 ⟨rfl, rfl⟩
    go_wp2_with fail
    refine CN.out.mono ?_
    rintro e w2 ⟨n, rfl, hn, b2⟩
    have HN := Lib.hid hn
    have B2 := Lib.hid b2
    clear hn b2
    go_wp2_with fail
    go_ret2
    exact ⟨n, rfl, HN.out, B2.out⟩
  · rw [if_neg hm, decide_eq_false hm] at CC
    rw [if_neg hm] at HR
    clear hm hl hT CN
    go_enter Tryz.func69, Tryz.ntmps69
    go_wp2_with fail
    refine CC.out.mono ?_
    rintro e w1 ⟨rfl, rfl⟩
    go_wp2_with fail
    go_ret2
    exact ⟨0, by rw [HR.out]; rfl, fun v hv => (by rw [HR.out] at hv; cases hv), Below.refl _ _⟩
theorem has_0x (l : List UInt8) (w : World) : Calls Tryz.prog 86 #[.string (strOf l), .string { data := #[48, 120] }] w fun e w' => e = .returned (.bool (parP l)) ∧ w' = w := Tryz.strings_HasPrefix (strOf l) { data := #[48, 120] } w
set_option maxHeartbeats 1000000 in
theorem isa_immediate (l : List UInt8) (w : World) (hl : l.length ≤ 1099511627776) (hT : DigT w) : Calls Tryz.prog 70 #[.string (strOf l)] w fun e w' => ∃ n : Int, e = .returned (.tuple #[.int .u64 n, .bool (immW l).isSome]) ∧ (∀ v, immW l = some v → n = v) ∧ Below w.heap.size w w' := by
  have CH := Lib.hid (has_0x l w)
  have CP := Lib.hid (digits_Parse l w hl hT)
  have HI := Lib.hid (immW_word l)
  generalize immW l = o at *
  obtain ⟨x, hx⟩ : ∃ x : Int, x = (parV l : Int) := ⟨_, rfl⟩
  rw [← hx] at CP HI
  generalize parE l = er at *
  clear hx hl hT
  cases hp : parP l
  · rw [hp] at CH HI
    by_cases he : er = 0
    · have t0 : (er == 0) = true := by rw [he]; rfl
      have HE : Hid (o = some x) := by show _ = _; rw [HI.out, if_pos ⟨rfl, he⟩]
      clear he hp
      go_enter Tryz.func70, Tryz.ntmps70
      go_wp2_with fail
      refine CH.out.mono ?_
      rintro e w1 ⟨rfl, rfl⟩
      go_wp2_with fail
      refine CP.out.mono ?_
      rintro e w2 ⟨rfl, b2⟩
      have B2 := Lib.hid b2
      clear b2
      go_wp2_with fail
      go_ret2
      exact ⟨x, by rw [HE.out]; rfl, fun v hv => (by rw [HE.out] at hv; exact Option.some.inj hv), B2.out⟩
    · have t0 : (er == 0) = false := beqf he
      have HE : Hid (o = none) := by show _ = _; rw [HI.out, if_neg (fun h => he h.2)]
      clear he hp
      go_enter Tryz.func70, Tryz.ntmps70
      go_wp2_with fail
      refine CH.out.mono ?_
      rintro e w1 ⟨rfl, rfl⟩
      go_wp2_with fail
      refine CP.out.mono ?_
      rintro e w2 ⟨rfl, b2⟩
      have B2 := Lib.hid b2
      clear b2
      go_wp2_with fail
      go_ret2
      exact ⟨x, by rw [HE.out]; rfl, fun v hv => (by rw [HE.out] at hv; cases hv), B2.out⟩
  · rw [hp] at CH HI
    have HE : Hid (o = none) := by show _ = _; rw [HI.out, if_neg (by simp)]
    clear hp CP
    go_enter Tryz.func70, Tryz.ntmps70
    go_wp2_with fail
    refine CH.out.mono ?_
    rintro e w1 ⟨rfl, rfl⟩
    go_wp2_with fail
    go_ret2
    exact ⟨0, by rw [HE.out]; rfl, fun v hv => (by rw [HE.out] at hv; cases hv), Below.refl _ _⟩
end Go.Proofs.Sat
/- Registers and the first line: isa and the reference. -/
namespace Go.Proofs.Sat
open Go Go.RowKit
theorem regsW_snoc (l : List (List UInt8)) (p : List UInt8) : regsW (l ++ [p]) = (regsW l).bind fun X => (regW p).map fun n => X ++ [n] := by
  induction l with
  | nil =>
    show regsW [p] = _
    rw [regsW]
    cases h : regW p <;> simp [regsW, h]
  | cons q l ih =>
    rw [List.cons_append, regsW, regsW, ih]
    cases regW q with
    | none => rfl
    | some m =>
      cases regsW l with
      | none => rfl
      | some X => cases regW p <;> rfl
theorem regsW_bad {ws : List (List UInt8)} {k : Nat} (hk : k < ws.length) (h : regW ws[k] = none) : regsW ws = none := by
  induction ws generalizing k with
  | nil => simp at hk
  | cons q l ih =>
    rw [regsW]
    cases k with
    | zero =>
      have h' : regW q = none := h
      rw [h']
    | succ k =>
      have h' := ih (k := k) (by simpa using hk) h
      rw [h']
      cases regW q <;> rfl
theorem ref48_whole' (l : List UInt8) (w : World) (hl : l.length ≤ 1099511627776) : Calls Tryz.prog 71 #[.string (strOf l)] w fun e w' => ∃ n : Int, e = .returned (.tuple #[.int .i64 n, .bool (numW l).isSome]) ∧ (∀ v, numW l = some v → n = v) ∧ Below w.heap.size w w' :=
  (ref48_whole l w hl).mono fun e w' h => ⟨(numW l).getD 0, h.1, fun v hv => by rw [hv]; rfl, h.2.below _⟩
/-- The words of a line lie in a row. -/
abbrev RdW (S : Nat → Prop) (w : World) (a : Option Addr) (c : Nat) (ws : List (List UInt8)) : Prop := Rd Kd.str S w a c (ws.map strOf)
theorem RdW.at {S : Nat → Prop} {w : World} {a : Option Addr} {c : Nat} {ws : List (List UInt8)} (h : RdW S w a c ws) {k : Nat} (hk : k < ws.length) : ∃ b o, a = some ⟨b, o, none⟩ ∧ w.cell? ⟨b, o + k, none⟩ = some (.string (strOf ws[k])) := by
  obtain ⟨b, o, e, -, -, hc⟩ := h.vals (by rw [List.length_map]; omega) ByteArray.empty
  refine ⟨b, o, e, ?_⟩
  have d := hc k (by rw [List.length_map]; exact hk)
  rwa [getD_str _ (by rw [List.length_map]; exact hk), List.getElem_map] at d
abbrev WordsOK (ws : List (List UInt8)) : Prop := ws.length ≤ 1000000000 ∧ ∀ p ∈ ws, p.length ≤ 1099511627776
theorem optB_some {α : Type} {o : Option α} {v : α} (h : o = some v) : o.isSome = true := by rw [h]; rfl
set_option maxRecDepth 20000 in
set_option maxHeartbeats 2000000 in
theorem isa_registers (S : Nat → Prop) (a : Option Addr) (c : Nat) (ws : List (List UInt8)) (w : World) (hT : DigT w) (hR : RdW S w a c ws) (hW : WordsOK ws) :
    Calls Tryz.prog 37 #[.slice a ws.length c] w fun e w' => ∃ v, e = .returned (.tuple #[v, .bool (regsW ws).isSome]) ∧ Own (Kd.int .i64) 3 NoS w' w.heap.size v ((regsW ws).getD []) ∧ Below w.heap.size w w' := by
  have HR := Lib.hid hR
  have HT := Lib.hid hT
  have HW := Lib.hid hW
  obtain ⟨n, hn⟩ : ∃ n, n = ws.length := ⟨_, rfl⟩
  have HN := Lib.hid hn
  have hnl : n ≤ 1000000000 := by rw [hn]; exact hW.1
  rw [← hn]
  clear hn hR hT hW
  go_enter Tryz.func37, Tryz.ntmps37
  go_wp2_with fail
  go_loopw [4, 11] (fun v i wr => ∃ (k : Nat) (X : List Int), k ≤ n ∧ i = .int .i64 k ∧ X.length ≤ k ∧ Hid (regsW (ws.take k) = some X) ∧ Hid (Own (Kd.int .i64) 3 NoS wr w.heap.size v X) ∧ Hid (Below w.heap.size w wr)) (fun _ i _ => n - (intOf i).toNat)
  case atStart => exact ⟨0, [], by omega, rfl, by simp, by show _ = _; rw [List.take_zero]; rfl, Own.nil _ _ _ _ _, by first | exact Below.refl _ _ | exact (Drawn.of _ _).below _⟩
  case round =>
    obtain ⟨k, X, hk, rfl, hX, HX, O4, B4⟩ := hrel
    by_cases hlt : k < n
    · have HLT : Hid (k < ws.length) := by show _ < _; rw [← HN.out]; exact hlt
      have hkl : (k : Int) < (n : Int) := by omega
      obtain ⟨b, o, rfl, d5⟩ := RdW.at (HR.out.frame (Same.below B4.out)) HLT.out
      have hpk := HW.out.2 _ (List.getElem_mem HLT.out)
      have CP := Lib.hid (fun W hW => isa_register (ws[k]'HLT.out) W hpk hW)
      have HT4 := Lib.hid (HT.out.below B4.out)
      have HTK : Hid (ws.take (k + 1) = ws.take k ++ [ws[k]'HLT.out]) := List.take_succ_eq_append_getElem HLT.out
      have HBD := Lib.hid (fun h => regsW_bad HLT.out h)
      generalize ws[k]'HLT.out = p at *
      obtain ⟨W4, hW4⟩ : ∃ W4, W4 = wr := ⟨_, rfl⟩
      subst hW4
      obtain ⟨a4, c4, rfl⟩ := O4.out.form
      clear hpk
      cases hp : regW p with
      | none =>
        rw [hp] at CP
        have CP2 : Hid (∀ W, DigT W → Calls Tryz.prog 69 #[.string (strOf p)] W fun e w' => ∃ n : Int, e = .returned (.tuple #[.int .i64 n, .bool false]) ∧ (∀ v, (none : Option Int) = some v → n = v) ∧ Below W.heap.size W w') := CP.out
        have HE := Lib.hid (HBD.out hp)
        clear CP hp HBD
        go_wp2_with (first
          | (go_at_call 69; refine (CP2.out _ HT4.out).mono ?_; rintro e w5 ⟨m, rfl, -, b5⟩; have B5 := Lib.hid (below_then B4.out B4.out.size b5); clear b5)
          | fail)
        go_ret2
        exact ⟨_, by rw [HE.out]; rfl, by rw [HE.out]; exact Own.nil _ _ _ _ _, B5.out⟩
      | some m0 =>
        rw [hp] at CP
        have CP2 : Hid (∀ W, DigT W → Calls Tryz.prog 69 #[.string (strOf p)] W fun e w' => e = .returned (.tuple #[.int .i64 m0, .bool true]) ∧ Below W.heap.size W w') := fun W hW => (CP.out W hW).mono fun e w' ⟨n, he, hn, hb⟩ => ⟨by rw [he, hn m0 rfl]; rfl, hb⟩
        have HX2 : Hid (regsW (ws.take (k + 1)) = some (X ++ [m0])) := by show _ = _; rw [HTK.out, regsW_snoc, HX.out, hp]; rfl
        clear CP hp HBD
        go_wp2_with (first
          | (go_at_call 69; refine (CP2.out _ HT4.out).mono ?_; rintro e w5 ⟨rfl, b5⟩; have O5 := Lib.hid (O4.out.below b5); have B5 := Lib.hid (below_then B4.out B4.out.size b5); clear b5)
          | (at_builtin; refine wpList_append_ev _ rfl _ _ 23 rfl _ _ rfl rfl _ (run_app1 w5 infoInt rfl _ O5.out 3 [.int .i64 m0] m0 rfl (by omega) (by omega) B5.out.size) ?_; rintro n2 w6 ⟨ow2, g2, v2, _⟩; have B6 := Lib.hid (B5.out.grown g2 B5.out.size (fun k hk => (O5.out.lt k hk).1)); have O6 := Lib.hid ow2; clear ow2 g2 v2)
          | fail)
        go_roundw
        case rel => exact ⟨k + 1, X ++ [m0], by omega, by go_num, by rw [List.length_append, List.length_singleton]; omega, HX2.out, O6.out, B6.out⟩
        case measure => simp [intOf]; omega
    · have hnl : ¬ ((k : Int) < (n : Int)) := by omega
      have HE : Hid (regsW ws = some X) := by
        have h := HX.out
        rw [List.take_of_length_le (by have := HN.out; omega)] at h
        exact h
      clear hlt hk
      go_wp2_with fail
      go_ret2
      exact ⟨_, by rw [HE.out]; rfl, by rw [HE.out]; exact O4.out, B4.out⟩
set_option maxRecDepth 20000 in
set_option maxHeartbeats 4000000 in
theorem ref48_registers (S : Nat → Prop) (a : Option Addr) (c : Nat) (ws : List (List UInt8)) (w : World) (hR : RdW S w a c ws) (hW : WordsOK ws) :
    Calls Tryz.prog 42 #[.slice a ws.length c] w fun e w' => ∃ v, e = .returned (.tuple #[v, .bool (regsW ws).isSome]) ∧ Own (Kd.int .i64) 3 NoS w' w.heap.size v ((regsW ws).getD []) ∧ Below w.heap.size w w' := by
  have HR := Lib.hid hR
  have HW := Lib.hid hW
  obtain ⟨n, hn⟩ : ∃ n, n = ws.length := ⟨_, rfl⟩
  have HN := Lib.hid hn
  have hnl : n ≤ 1000000000 := by rw [hn]; exact hW.1
  rw [← hn]
  clear hn hR hW
  go_enter Tryz.func42, Tryz.ntmps42
  go_wp2_with fail
  go_loopw [4, 5] (fun v i wr => ∃ (k : Nat) (X : List Int), k ≤ n ∧ i = .int .i64 k ∧ X.length ≤ k ∧ Hid (regsW (ws.take k) = some X) ∧ Hid (Own (Kd.int .i64) 3 NoS wr w.heap.size v X) ∧ Hid (Below w.heap.size w wr)) (fun _ i _ => n - (intOf i).toNat)
  case atStart => exact ⟨0, [], by omega, rfl, by simp, by show _ = _; rw [List.take_zero]; rfl, Own.nil _ _ _ _ _, by first | exact Below.refl _ _ | exact (Drawn.of _ _).below _⟩
  case round =>
    obtain ⟨k, X, hk, rfl, hX, HX, O4, B4⟩ := hrel
    by_cases hlt : k < n
    · have HLT : Hid (k < ws.length) := by show _ < _; rw [← HN.out]; exact hlt
      have hkl : (k : Int) < (n : Int) := by omega
      obtain ⟨b, o, rfl, d5⟩ := RdW.at (HR.out.frame (Same.below B4.out)) HLT.out
      have hpk := HW.out.2 _ (List.getElem_mem HLT.out)
      have HTK : Hid (ws.take (k + 1) = ws.take k ++ [ws[k]'HLT.out]) := List.take_succ_eq_append_getElem HLT.out
      have HBD := Lib.hid (fun h => regsW_bad HLT.out h)
      generalize ws[k]'HLT.out = p at *
      have hb4 := B4.out.size
      obtain ⟨a4, c4, rfl⟩ := O4.out.form
      have hts := toList_strOf p
      have hsz := strOf_size p
      cases p with
      | nil =>
        have HE := Lib.hid (HBD.out rfl)
        have t0 : (([] : List UInt8) == []) = true := rfl
        clear HBD hpk
        go_wp2_with fail
        go_ret2
        exact ⟨_, by rw [HE.out]; rfl, by rw [HE.out]; exact Own.nil _ _ _ _ _, B4.out⟩
      | cons z r =>
        have t0 : ((z :: r) == ([] : List UInt8)) = false := rfl
        have hix : ∀ W : World, (Instr.index 9 (.string (strOf (z :: r))) (.int .i64 0)).run Tryz.prog W = .ok (.int .u8 ((z.toNat : Nat) : Int)) W := fun W => str_index 9 Tryz.underlying9 (z :: r) 0 (by simp) W
        have hlp : 0 < (z :: r).length := by simp
        have hfr : (strOf (z :: r)).extract 1 (z :: r).length = strOf r := by rw [strOf_extract, List.take_of_length_le (by rw [List.length_drop]; omega)]; rfl
        have CP := Lib.hid (fun W => ref48_whole' r W (by simp at hpk; omega))
        have HPE : Hid (regW (z :: r) = if z = 114 then numW r else none) := by show _ = _; rw [regW]
        obtain ⟨pl, hpl⟩ : ∃ pl, pl = z :: r := ⟨_, rfl⟩
        rw [← hpl] at hix hlp hfr HPE t0 hsz hts d5 HBD HTK hpk
        obtain ⟨m, hm⟩ : ∃ m, m = pl.length := ⟨_, rfl⟩
        rw [← hm] at hlp hfr hsz hpk
        clear hpl hm
        by_cases hz : z = 114
        · have t1 : ((z.toNat : Int) != 114) = false := by rw [hz]; rfl
          rw [if_pos hz] at HPE
          obtain ⟨zn, hzn⟩ : ∃ zn : Int, zn = (z.toNat : Int) := ⟨_, rfl⟩
          rw [← hzn] at t1 hix
          clear hz hzn
          cases hp : numW r with
          | none =>
            rw [hp] at CP HPE
            have CP2 : Hid (∀ W, Calls Tryz.prog 71 #[.string (strOf r)] W fun e w' => ∃ n : Int, e = .returned (.tuple #[.int .i64 n, .bool false]) ∧ (∀ v, (none : Option Int) = some v → n = v) ∧ Below W.heap.size W w') := CP.out
            have HE := Lib.hid (HBD.out HPE.out)
            clear CP hp HBD hpk
            go_wp2_with (first
              | (go_at_call 71; refine (CP2.out _).mono ?_; rintro e w5 ⟨m, rfl, -, b5⟩; have B5 := Lib.hid (below_then B4.out B4.out.size b5); clear b5)
              | fail)
            go_ret2
            exact ⟨_, by rw [HE.out]; rfl, by rw [HE.out]; exact Own.nil _ _ _ _ _, B5.out⟩
          | some m0 =>
            rw [hp] at CP HPE
            have CP2 : Hid (∀ W, Calls Tryz.prog 71 #[.string (strOf r)] W fun e w' => e = .returned (.tuple #[.int .i64 m0, .bool true]) ∧ Below W.heap.size W w') := fun W => (CP.out W).mono fun e w' ⟨n, he, hn, hb⟩ => ⟨by rw [he, hn m0 rfl]; rfl, hb⟩
            have HX2 : Hid (regsW (ws.take (k + 1)) = some (X ++ [m0])) := by show _ = _; rw [HTK.out, regsW_snoc, HX.out, HPE.out]; rfl
            clear CP hp HBD hpk
            obtain ⟨W4, hW4⟩ : ∃ W4, W4 = wr := ⟨_, rfl⟩
            subst hW4
            go_wp2_with (first
              | (go_at_call 71; refine (CP2.out _).mono ?_; rintro e w5 ⟨rfl, b5⟩; have O5 := Lib.hid (O4.out.below b5); have B5 := Lib.hid (below_then B4.out B4.out.size b5); clear b5)
              | (at_builtin; refine wpList_append_ev _ rfl _ _ 23 rfl _ _ rfl rfl _ (run_app1 w5 infoInt rfl _ O5.out 3 [.int .i64 m0] m0 rfl (by omega) (by omega) B5.out.size) ?_; rintro n2 w6 ⟨ow2, g2, v2, _⟩; have B6 := Lib.hid (B5.out.grown g2 B5.out.size (fun k hk => (O5.out.lt k hk).1)); have O6 := Lib.hid ow2; clear ow2 g2 v2)
              | fail)
            go_roundw
            case rel => exact ⟨k + 1, X ++ [m0], by omega, by go_num, by rw [List.length_append, List.length_singleton]; omega, HX2.out, O6.out, B6.out⟩
            case measure => simp [intOf]; omega
        · have t1 : ((z.toNat : Int) != 114) = true := by
            rw [bne_iff_ne]
            intro h
            apply hz
            apply UInt8.toNat_inj.1
            show z.toNat = 114
            omega
          rw [if_neg hz] at HPE
          have HE := Lib.hid (HBD.out HPE.out)
          obtain ⟨zn, hzn⟩ : ∃ zn : Int, zn = (z.toNat : Int) := ⟨_, rfl⟩
          rw [← hzn] at t1 hix
          clear hz hzn HBD hpk CP
          go_wp2_with fail
          go_ret2
          exact ⟨_, by rw [HE.out]; rfl, by rw [HE.out]; exact Own.nil _ _ _ _ _, B4.out⟩
    · have hnl : ¬ ((k : Int) < (n : Int)) := by omega
      have HE : Hid (regsW ws = some X) := by
        have h := HX.out
        rw [List.take_of_length_le (by have := HN.out; omega)] at h
        exact h
      clear hlt hk
      go_wp2_with fail
      go_ret2
      exact ⟨_, by rw [HE.out]; rfl, by rw [HE.out]; exact O4.out, B4.out⟩
end Go.Proofs.Sat
/- The first line: isa.header and the reference's head. -/
namespace Go.Proofs.Sat
open Go Go.RowKit
theorem part_le {s : UInt8} : ∀ {l p : List UInt8}, p ∈ spl s l → p.length ≤ l.length := by
  intro l
  induction l with
  | nil => intro p hp; simp [spl] at hp; subst hp; simp
  | cons c r ih =>
    intro p hp
    unfold spl at hp
    split at hp
    · rcases List.mem_cons.1 hp with rfl | hp
      · simp
      · have := ih hp; simp; omega
    · cases hs : spl s r with
      | nil => exact absurd hs (spl_ne _ _)
      | cons a b =>
        rw [hs] at hp ih
        simp only [glue] at hp
        rcases List.mem_cons.1 hp with rfl | hp
        · have := ih (p := a) (by simp); simp; omega
        · have := ih (p := p) (by simp [hp]); simp; omega
theorem spl_words {s : UInt8} {l : List UInt8} (h : l.length ≤ 900000000) : WordsOK (spl s l) := by
  refine ⟨by have := spl_len s l; omega, fun p hp => by have := part_le hp; omega⟩
theorem split_one' (s : UInt8) (l : List UInt8) (w : World) (hl : l.length ≤ 900000000) (hT : MaxT w) :
    Calls Tryz.prog 35 #[.string (strOf l), .string (strOf [s])] w fun e w' => ∃ a c, e = .returned (.slice a (spl s l).length c) ∧ RdW (fun b => w.heap.size ≤ b) w' a c (spl s l) ∧ Below w.heap.size w w' :=
  (split_one s l w (by omega) hT).mono fun e w' h => ⟨_, _, h.1, h.2.1, h.2.2⟩
theorem ref48_Split' (l : List UInt8) (s : UInt8) (w : World) (hl : l.length ≤ 900000000) : Calls Tryz.prog 39 #[.string (strOf l), .int .u8 (s.toNat : Int)] w fun e w' => ∃ a c, e = .returned (.slice a (spl s l).length c) ∧ RdW (fun b => w.heap.size ≤ b) w' a c (spl s l) ∧ Below w.heap.size w w' := by
  refine (ref48_Split l s w (by omega)).mono ?_
  rintro e w' ⟨v, rfl, ho, hb⟩
  obtain ⟨a, c, hf⟩ := ho.form
  subst hf
  rw [List.length_map] at ho ⊢
  exact ⟨a, c, rfl, (ho.rd').mono (fun b _ h => h.elim (fun h => h.elim) id), hb⟩
theorem headW_four {l a b c d : List UInt8} (h : spl 32 l = [a, b, c, d]) : headW l = if a = wWidth ∧ c = wRegs then (match numW b, numW d with
    | some x, some y => some (x, y)
    | _, _ => none) else none := by unfold headW; rw [h]; rfl
theorem headW_not {l : List UInt8} (h : (spl 32 l).length ≠ 4) : headW l = none := by
  unfold headW
  split
  · rename_i a b c d hs
    rw [hs] at h
    exact absurd rfl h
  · rfl
theorem four_of {α : Type} {l : List α} (h : l.length = 4) : ∃ a b c d, l = [a, b, c, d] := by
  match l, h with
  | [a, b, c, d], _ => exact ⟨a, b, c, d, rfl⟩
theorem head_some {b d : List UInt8} {n m : Int} (hn : ∀ v, numW b = some v → n = v) (hm : ∀ v, numW d = some v → m = v) : ((match numW b, numW d with
    | some x, some y => some (x, y)
    | _, _ => none).isSome = ((numW b).isSome && (numW d).isSome)) ∧ ∀ p, (match numW b, numW d with
    | some x, some y => some (x, y)
    | _, _ => none) = some p → (n, m) = p := by
  cases hb : numW b with
  | none => exact ⟨rfl, fun p h => by cases h⟩
  | some x => cases hd : numW d with
    | none => exact ⟨rfl, fun p h => by cases h⟩
    | some y => exact ⟨rfl, fun p h => by cases h; rw [hn x hb, hm y hd]⟩
set_option maxRecDepth 20000 in
set_option maxHeartbeats 4000000 in
theorem isa_header (l : List UInt8) (w : World) (hl : l.length ≤ 900000000) (hT : DigT w) : Calls Tryz.prog 36 #[.string (strOf l)] w fun e w' => ∃ n m : Int, e = .returned (.tuple #[.int .i64 n, .int .i64 m, .bool (headW l).isSome]) ∧ (∀ p, headW l = some p → (n, m) = p) ∧ Below w.heap.size w w' := by
  have CS := Lib.hid (split_one' 32 l w hl hT.maxl)
  have hwd := spl_words (s := 32) hl
  have HNF := Lib.hid (fun h => headW_not (l := l) h)
  have HFO := Lib.hid (fun a b c d h => headW_four (l := l) (a := a) (b := b) (c := c) (d := d) h)
  generalize headW l = o at *
  generalize spl 32 l = ws at *
  have HWD := Lib.hid hwd
  have HT := Lib.hid hT
  clear hT
  clear hl hwd
  go_enter Tryz.func36, Tryz.ntmps36
  by_cases h4 : ws.length = 4
  case neg =>
    have HE := Lib.hid (HNF.out h4)
    obtain ⟨n, hn⟩ : ∃ n, n = ws.length := ⟨_, rfl⟩
    rw [← hn] at CS
    have t0 : (n == 4) = false := by rw [beq_eq_false_iff_ne]; omega
    have t1 : ((n : Int) == 4) = false := by rw [beq_eq_false_iff_ne]; omega
    have t2 : ((n : Int) != 4) = true := by rw [bne_iff_ne]; omega
    clear h4 hn
    go_wp2_with fail
    refine CS.out.mono ?_
    rintro e w1 ⟨a, c, rfl, r1, b1⟩
    have B1 := Lib.hid b1
    clear b1 r1
    go_wp2_with fail
    go_ret3
    exact ⟨0, 0, by rw [HE.out]; rfl, fun p hp => (by rw [HE.out] at hp; cases hp), B1.out⟩
  obtain ⟨p0, p1, p2, p3, rfl⟩ := four_of h4
  have HF := Lib.hid (HFO.out _ _ _ _ rfl)
  have h1l := HWD.out.2 p1 (by simp)
  have h3l := HWD.out.2 p3 (by simp)
  have CS2 : Hid (Calls Tryz.prog 35 #[.string (strOf l), .string (strOf [32])] w fun e w' => ∃ a c, e = .returned (.slice a 4 c) ∧ RdW (fun b => w.heap.size ≤ b) w' a c [p0, p1, p2, p3] ∧ Below w.heap.size w w') := CS.out
  have CN1 := Lib.hid ((fun (p : List UInt8) (h : p.length ≤ 1099511627776) (W : World) (hW : DigT W) => isa_number p W h hW) p1)
  have CN3 := Lib.hid ((fun (p : List UInt8) (h : p.length ≤ 1099511627776) (W : World) (hW : DigT W) => isa_number p W h hW) p3)
  have ht0 := toList_strOf p0
  have ht2 := toList_strOf p2
  clear CS h4 HNF HFO
  by_cases hc : p0 = wWidth ∧ p2 = wRegs
  · rw [if_pos hc] at HF
    obtain ⟨rfl, rfl⟩ := hc
    have HH := Lib.hid (fun n m hn hm => head_some (b := p1) (d := p3) (n := n) (m := m) hn hm)
    rw [← HF.out] at HH
    generalize (numW p1).isSome = s1 at *
    generalize (numW p3).isSome = s3 at *
    clear HF
    go_wp2_with fail
    refine CS2.out.mono ?_
    rintro e w1 ⟨a, c, rfl, r1, b1⟩
    have B1 := Lib.hid b1
    have R1 := Lib.hid r1
    obtain ⟨b, o, rfl, d0⟩ := r1.at (k := 0) (by simp)
    obtain ⟨_, _, e1, d1⟩ := r1.at (k := 1) (by simp)
    obtain ⟨_, _, e2, d2⟩ := r1.at (k := 2) (by simp)
    cases e1
    cases e2
    simp only [List.getElem_cons_zero, List.getElem_cons_succ, Nat.add_zero] at d0 d1 d2
    clear b1 r1 CS2
    go_wp2_with fail
    refine (CN1.out h1l w1 (HT.out.below B1.out)).mono ?_
    rintro e w2 ⟨n, rfl, hn, b2⟩
    have B2 := Lib.hid (below_both B1.out b2)
    have HN := Lib.hid hn
    have R2 := Lib.hid (R1.out.frame (Same.below b2))
    clear b2 hn d0 d1 d2
    obtain ⟨_, _, e3, d3⟩ := RdW.at R2.out (k := 3) (by simp)
    cases e3
    simp only [List.getElem_cons_zero, List.getElem_cons_succ] at d3
    go_wp2_with fail
    refine (CN3.out h3l w2 (HT.out.below B2.out)).mono ?_
    rintro e w3 ⟨m, rfl, hm, b3⟩
    have B3 := Lib.hid (below_both B2.out b3)
    have HM := Lib.hid hm
    clear b3 hm d3
    have HHH := Lib.hid (HH.out n m HN.out HM.out)
    clear HH
    cases s1
    · go_wp2_with fail
      go_ret3
      exact ⟨n, m, by rw [HHH.out.1]; rfl, HHH.out.2, B3.out⟩
    · go_wp2_with fail
      go_ret3
      exact ⟨n, m, by rw [HHH.out.1]; rfl, HHH.out.2, B3.out⟩
  · rw [if_neg hc] at HF
    have hway : (p0 == [119, 105, 100, 116, 104]) = false ∨ ((p0 == [119, 105, 100, 116, 104]) = true ∧ (p2 == [114, 101, 103, 115]) = false) := by
      by_cases h0 : p0 = wWidth
      · right
        exact ⟨by rw [beq_iff_eq]; exact h0, by rw [beq_eq_false_iff_ne]; exact fun h => hc ⟨h0, h⟩⟩
      · left; rw [beq_eq_false_iff_ne]; exact h0
    clear hc CN1 CN3 h1l h3l
    rcases hway with t0 | ⟨t0, t2⟩
    all_goals
      go_wp2_with fail
      refine CS2.out.mono ?_
      rintro e w1 ⟨a, c, rfl, r1, b1⟩
      have B1 := Lib.hid b1
      obtain ⟨b, o, rfl, d0⟩ := r1.at (k := 0) (by simp)
      obtain ⟨_, _, e2, d2⟩ := r1.at (k := 2) (by simp)
      cases e2
      simp only [List.getElem_cons_zero, List.getElem_cons_succ, Nat.add_zero] at d0 d2
      clear b1 r1 CS2
      go_wp2_with fail
      go_ret3
      exact ⟨0, 0, by rw [HF.out]; rfl, fun p hp => (by rw [HF.out] at hp; cases hp), B1.out⟩
set_option maxRecDepth 20000 in
set_option maxHeartbeats 4000000 in
theorem ref48_head (l : List UInt8) (w : World) (hl : l.length ≤ 900000000) : Calls Tryz.prog 40 #[.string (strOf l)] w fun e w' => ∃ n m : Int, e = .returned (.tuple #[.int .i64 n, .int .i64 m, .bool (headW l).isSome]) ∧ (∀ p, headW l = some p → (n, m) = p) ∧ Below w.heap.size w w' := by
  have CS := Lib.hid (ref48_Split' l 32 w hl)
  have hwd := spl_words (s := 32) hl
  have HNF := Lib.hid (fun h => headW_not (l := l) h)
  have HFO := Lib.hid (fun a b c d h => headW_four (l := l) (a := a) (b := b) (c := c) (d := d) h)
  generalize headW l = o at *
  generalize spl 32 l = ws at *
  have HWD := Lib.hid hwd
  clear hl hwd
  go_enter Tryz.func40, Tryz.ntmps40
  by_cases h4 : ws.length = 4
  case neg =>
    have HE := Lib.hid (HNF.out h4)
    obtain ⟨n, hn⟩ : ∃ n, n = ws.length := ⟨_, rfl⟩
    rw [← hn] at CS
    have t0 : (n == 4) = false := by rw [beq_eq_false_iff_ne]; omega
    have t1 : ((n : Int) == 4) = false := by rw [beq_eq_false_iff_ne]; omega
    have t2 : ((n : Int) != 4) = true := by rw [bne_iff_ne]; omega
    clear h4 hn
    go_wp2_with fail
    refine CS.out.mono ?_
    rintro e w1 ⟨a, c, rfl, r1, b1⟩
    have B1 := Lib.hid b1
    clear b1 r1
    go_wp2_with fail
    go_ret3
    exact ⟨0, 0, by rw [HE.out]; rfl, fun p hp => (by rw [HE.out] at hp; cases hp), B1.out⟩
  obtain ⟨p0, p1, p2, p3, rfl⟩ := four_of h4
  have HF := Lib.hid (HFO.out _ _ _ _ rfl)
  have h1l := HWD.out.2 p1 (by simp)
  have h3l := HWD.out.2 p3 (by simp)
  have CS2 : Hid (Calls Tryz.prog 39 #[.string (strOf l), .int .u8 (((32 : UInt8).toNat : Nat) : Int)] w fun e w' => ∃ a c, e = .returned (.slice a 4 c) ∧ RdW (fun b => w.heap.size ≤ b) w' a c [p0, p1, p2, p3] ∧ Below w.heap.size w w') := CS.out
  have CN1 := Lib.hid ((fun (p : List UInt8) (h : p.length ≤ 1099511627776) (W : World) => ref48_whole' p W h) p1)
  have CN3 := Lib.hid ((fun (p : List UInt8) (h : p.length ≤ 1099511627776) (W : World) => ref48_whole' p W h) p3)
  have ht0 := toList_strOf p0
  have ht2 := toList_strOf p2
  clear CS h4 HNF HFO
  by_cases hc : p0 = wWidth ∧ p2 = wRegs
  · rw [if_pos hc] at HF
    obtain ⟨rfl, rfl⟩ := hc
    have HH := Lib.hid (fun n m hn hm => head_some (b := p1) (d := p3) (n := n) (m := m) hn hm)
    rw [← HF.out] at HH
    generalize (numW p1).isSome = s1 at *
    generalize (numW p3).isSome = s3 at *
    clear HF
    go_wp2_with fail
    refine CS2.out.mono ?_
    rintro e w1 ⟨a, c, rfl, r1, b1⟩
    have B1 := Lib.hid b1
    have R1 := Lib.hid r1
    obtain ⟨b, o, rfl, d0⟩ := r1.at (k := 0) (by simp)
    obtain ⟨_, _, e1, d1⟩ := r1.at (k := 1) (by simp)
    obtain ⟨_, _, e2, d2⟩ := r1.at (k := 2) (by simp)
    cases e1
    cases e2
    simp only [List.getElem_cons_zero, List.getElem_cons_succ, Nat.add_zero] at d0 d1 d2
    clear b1 r1 CS2
    go_wp2_with fail
    refine (CN1.out h1l w1 ).mono ?_
    rintro e w2 ⟨n, rfl, hn, b2⟩
    have B2 := Lib.hid (below_both B1.out b2)
    have HN := Lib.hid hn
    have R2 := Lib.hid (R1.out.frame (Same.below b2))
    clear b2 hn d0 d1 d2
    obtain ⟨_, _, e3, d3⟩ := RdW.at R2.out (k := 3) (by simp)
    cases e3
    simp only [List.getElem_cons_zero, List.getElem_cons_succ] at d3
    go_wp2_with fail
    refine (CN3.out h3l w2 ).mono ?_
    rintro e w3 ⟨m, rfl, hm, b3⟩
    have B3 := Lib.hid (below_both B2.out b3)
    have HM := Lib.hid hm
    clear b3 hm d3
    have HHH := Lib.hid (HH.out n m HN.out HM.out)
    clear HH
    cases s1
    · go_wp2_with fail
      go_ret3
      exact ⟨n, m, by rw [HHH.out.1]; rfl, HHH.out.2, B3.out⟩
    · go_wp2_with fail
      go_ret3
      exact ⟨n, m, by rw [HHH.out.1]; rfl, HHH.out.2, B3.out⟩
  · rw [if_neg hc] at HF
    have hway : (p0 == [119, 105, 100, 116, 104]) = false ∨ ((p0 == [119, 105, 100, 116, 104]) = true ∧ (p2 == [114, 101, 103, 115]) = false) := by
      by_cases h0 : p0 = wWidth
      · right
        exact ⟨by rw [beq_iff_eq]; exact h0, by rw [beq_eq_false_iff_ne]; exact fun h => hc ⟨h0, h⟩⟩
      · left; rw [beq_eq_false_iff_ne]; exact h0
    clear hc CN1 CN3 h1l h3l
    rcases hway with t0 | ⟨t0, t2⟩
    all_goals
      go_wp2_with fail
      refine CS2.out.mono ?_
      rintro e w1 ⟨a, c, rfl, r1, b1⟩
      have B1 := Lib.hid b1
      obtain ⟨b, o, rfl, d0⟩ := r1.at (k := 0) (by simp)
      obtain ⟨_, _, e2, d2⟩ := r1.at (k := 2) (by simp)
      cases e2
      simp only [List.getElem_cons_zero, List.getElem_cons_succ, Nat.add_zero] at d0 d2
      clear b1 r1 CS2
      go_wp2_with fail
      go_ret3
      exact ⟨0, 0, by rw [HF.out]; rfl, fun p hp => (by rw [HF.out] at hp; cases hp), B1.out⟩
end Go.Proofs.Sat
