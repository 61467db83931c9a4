/- MsI, MsJ, MsK, one after the other. -/
import Derived.Test.YtiepphjpfjfkmaaDoorMsG
import Derived.Test.YtiepphjpfjfkmaaDoorDgN
set_option linter.unusedVariables false
set_option linter.unusedSimpArgs false
/- Split of the reference; numbers and registers as both read them. -/
namespace Go.Proofs.Sat
open Go Go.RowKit
theorem hex_bad {l : List UInt8} (h : parP l = true) : numE 10 l = 6 := by
  unfold parP Lib.hasPrefix at h
  match l, h with
  | [a], h => simp [List.isPrefixOf] at h
  | a :: b :: r, h =>
    simp [List.isPrefixOf] at h
    obtain ⟨rfl, rfl⟩ := h
    refine (numE_bad ?_).1
    unfold badL
    simp
theorem immW_word (l : List UInt8) : immW l = if parP l = false ∧ parE l = 0 then some (parV l : Int) else none := by
  unfold immW
  cases hp : parP l
  · have he : parE l = numE 10 l := by unfold parE; rw [hp]; rfl
    have hv : parV l = numV 10 l := by unfold parV; rw [hp]; rfl
    rw [he, hv]
    by_cases h : numE 10 l = 0
    · rw [if_pos h, if_pos ⟨rfl, h⟩, numV_val h]
    · rw [if_neg h, if_neg (fun h2 => h h2.2)]
  · rw [if_neg (by rw [hex_bad hp]; decide), if_neg (by simp)]
theorem immW_ref (l : List UInt8) : immW l = if parE l = 0 ∧ wrL 10 (parV l) = l then some (parV l : Int) else none := by
  rw [immW_word]
  by_cases he : parE l = 0
  · cases hp : parP l
    · have hw : wrL 10 (parV l) = l := by
        have h : numE 10 l = 0 := by unfold parE at he; rw [hp] at he; simpa using he
        obtain ⟨h1, h2, h3⟩ := numE_zero h
        have hv : parV l = valL 10 l := by unfold parV; rw [hp, ← h3]; rfl
        rw [hv]
        exact good_wrL (.inl rfl) _ _ (Nat.le_refl _) h1
      rw [if_pos ⟨rfl, he⟩, if_pos ⟨he, hw⟩]
    · rw [if_neg (by simp), if_neg]
      rintro ⟨_, h2⟩
      have := parP_dec (parV l)
      rw [h2, hp] at this
      cases this
  · rw [if_neg (fun h => he h.2), if_neg (fun h => he h.1)]
theorem parV_lt (l : List UInt8) : parV l < 18446744073709551616 := by unfold parV; split <;> exact numV_lt _ _
def optB {α : Type} (o : Option α) : Bool := o.isSome
theorem numW_imm (l : List UInt8) : numW l = match immW l with
    | none => none
    | some x => if x < 9223372036854775808 then some x else none := by
  unfold numW immW
  by_cases h : numE 10 l = 0
  · rw [if_pos h]
    dsimp only
    by_cases h2 : valL 10 l < 9223372036854775808
    · rw [if_pos ⟨h, h2⟩, if_pos (by omega)]
    · rw [if_neg (fun h3 => h2 h3.2), if_neg (by omega)]
  · rw [if_neg h, if_neg (fun h3 => h h3.1)]
theorem immW_bound {l : List UInt8} {x : Int} (h : immW l = some x) : 0 ≤ x ∧ x < 18446744073709551616 := (immW_text h).2
theorem numW_pin (l : List UInt8) : numW l = if pinE l = 0 ∧ 0 ≤ pinV l then some (pinV l) else none := by
  unfold numW
  by_cases hm : l.head? = some 45
  · have hb : badL 10 l = true := by
      have hl := minus_form hm
      unfold badL
      rw [Bool.or_eq_true]
      right
      rw [List.any_eq_true]
      exact ⟨45, by rw [hl]; simp, by decide⟩
    rw [if_neg (by rw [(numE_bad hb).1]; rintro ⟨h, _⟩; cases h), if_neg]
    rintro ⟨h1, h2⟩
    have hV : pinV l = -(valL 10 l.tail : Int) := by unfold pinV; rw [if_pos h1, if_pos hm]
    unfold pinE at h1
    rw [if_pos hm] at h1
    split at h1
    · split at h1
      · cases h1
      · omega
    · rename_i h3; exact h3 h1
  · have hE : pinE l = if numE 10 l = 0 then (if 9223372036854775807 < valL 10 l then 2 else 0) else numE 10 l := by unfold pinE; rw [if_neg hm]
    by_cases hn : numE 10 l = 0
    · rw [if_pos hn] at hE
      by_cases hv : valL 10 l < 9223372036854775808
      · have h1 : pinE l = 0 := by rw [hE, if_neg (by omega)]
        have h2 : pinV l = (valL 10 l : Int) := by unfold pinV; rw [if_pos h1, if_neg hm]
        rw [if_pos ⟨hn, hv⟩, if_pos ⟨h1, by omega⟩, h2]
      · rw [if_neg (fun h => hv h.2), if_neg]
        rintro ⟨h1, _⟩
        rw [hE, if_pos (by omega)] at h1
        cases h1
    · rw [if_neg hn] at hE
      rw [if_neg (fun h => hn h.1), if_neg]
      rintro ⟨h1, _⟩
      rw [hE] at h1
      exact hn h1
/-! ### Numbers of package isa -/
set_option maxHeartbeats 1000000 in
theorem isa_number (l : List UInt8) (w : World) (hl : l.length ≤ 1099511627776) (hT : DigT w) : Calls Tryd.prog 32 #[.string (strOf l)] w fun e w' => ∃ n : Int, e = .returned (.tuple #[.int .i64 n, .bool (numW l).isSome]) ∧ (∀ v, numW l = some v → n = v) ∧ Below w.heap.size w w' := by
  have CP := Lib.hid (digits_ParseInt l w hl hT)
  have HI := Lib.hid (numW_pin l)
  generalize numW l = o at *
  generalize pinV l = n at *
  generalize pinE l = er at *
  clear hl hT
  by_cases he : er = 0
  · have t0 : (er == 0) = true := by rw [he]; rfl
    by_cases hn : 0 ≤ n
    · have t1 : decide (0 ≤ n) = true := decide_eq_true hn
      have HE : Hid (o = some n) := by show _ = _; rw [HI.out, if_pos ⟨he, hn⟩]
      clear he hn
      go_enter Tryd.func32, Tryd.ntmps32
      go_wp2_with fail
      refine CP.out.mono ?_
      rintro e w1 ⟨rfl, b1⟩
      have B1 := Lib.hid b1
      clear b1
      go_wp2_with fail
      go_ret2
      exact ⟨n, by rw [HE.out]; rfl, fun v hv => (by rw [HE.out] at hv; exact Option.some.inj hv), B1.out⟩
    · have t1 : decide (0 ≤ n) = false := decide_eq_false hn
      have HE : Hid (o = none) := by show _ = _; rw [HI.out, if_neg (fun h => hn h.2)]
      clear he hn
      go_enter Tryd.func32, Tryd.ntmps32
      go_wp2_with fail
      refine CP.out.mono ?_
      rintro e w1 ⟨rfl, b1⟩
      have B1 := Lib.hid b1
      clear b1
      go_wp2_with fail
      go_ret2
      exact ⟨n, by rw [HE.out]; rfl, fun v hv => (by rw [HE.out] at hv; cases hv), B1.out⟩
  · have t0 : (er == 0) = false := beqf he
    have HE : Hid (o = none) := by show _ = _; rw [HI.out, if_neg (fun h => he h.1)]
    clear he
    go_enter Tryd.func32, Tryd.ntmps32
    go_wp2_with fail
    refine CP.out.mono ?_
    rintro e w1 ⟨rfl, b1⟩
    have B1 := Lib.hid b1
    clear b1
    go_wp2_with fail
    go_ret2
    exact ⟨n, by rw [HE.out]; rfl, fun v hv => (by rw [HE.out] at hv; cases hv), B1.out⟩
theorem cut_r (l : List UInt8) (w : World) : Calls Tryd.prog 45 #[.string (strOf l), .string { data := #[114] }] w fun e w' => e = .returned (.tuple #[.string (strOf (if l.head? = some 114 then l.tail else l)), .bool (decide (l.head? = some 114))]) ∧ w' = w := by
  have h := Tryd.strings_CutPrefix (strOf l) { data := #[114] } w
  refine h.mono ?_
  rintro e w1 ⟨rfl, rfl⟩
  refine ⟨?_, rfl⟩
  show Ending.returned (.tuple #[.string ⟨(Lib.trimPrefix l [114]).toArray⟩, .bool (Lib.hasPrefix l [114])]) = _
  have hp : Lib.hasPrefix l [114] = decide (l.head? = some 114) := by
    unfold Lib.hasPrefix
    cases l with
    | nil => rfl
    | cons c r =>
      simp only [List.isPrefixOf, Bool.and_true, List.head?_cons, Option.some.injEq]
      rw [Bool.eq_iff_iff, beq_iff_eq, decide_eq_true_eq]
      exact eq_comm
  unfold Lib.trimPrefix
  rw [hp]
  by_cases hm : l.head? = some 114
  · rw [if_pos hm, if_pos (decide_eq_true hm), List.length_singleton, List.drop_one]; rfl
  · rw [if_neg hm, if_neg (by simp [hm])]; rfl
theorem regW_head (l : List UInt8) : regW l = if l.head? = some 114 then numW l.tail else none := by
  cases l with
  | nil => rfl
  | cons c r =>
    rw [regW]
    by_cases h : c = 114
    · rw [if_pos h, if_pos (by rw [h]; rfl), List.tail_cons]
    · rw [if_neg h, if_neg (by simpa using h)]
set_option maxHeartbeats 1000000 in
theorem isa_register (l : List UInt8) (w : World) (hl : l.length ≤ 1099511627776) (hT : DigT w) : Calls Tryd.prog 33 #[.string (strOf l)] w fun e w' => ∃ n : Int, e = .returned (.tuple #[.int .i64 n, .bool (regW l).isSome]) ∧ (∀ v, regW l = some v → n = v) ∧ Below w.heap.size w w' := by
  have CC := Lib.hid (cut_r l w)
  have CN := Lib.hid (isa_number l.tail w (by rw [List.length_tail]; omega) hT)
  have HR := Lib.hid (regW_head l)
  generalize regW l = o at *
  by_cases hm : l.head? = some 114
  · rw [if_pos hm, decide_eq_true hm] at CC
    rw [if_pos hm] at HR
    generalize numW l.tail = o2 at *
    generalize l.tail = m at *
    obtain rfl : o = o2 := HR.out
    clear hm hl hT HR
    go_enter Tryd.func33, Tryd.ntmps33
    go_wp2_with fail
    refine CC.out.mono ?_
    rintro e w1 ⟨rfl, rfl⟩
    go_wp2_with fail
    refine CN.out.mono ?_
    rintro e w2 ⟨n, rfl, hn, b2⟩
    have HN := Lib.hid hn
    have B2 := Lib.hid b2
    clear hn b2
    go_wp2_with fail
    go_ret2
    exact ⟨n, rfl, HN.out, B2.out⟩
  · rw [if_neg hm, decide_eq_false hm] at CC
    rw [if_neg hm] at HR
    clear hm hl hT CN
    go_enter Tryd.func33, Tryd.ntmps33
    go_wp2_with fail
    refine CC.out.mono ?_
    rintro e w1 ⟨rfl, rfl⟩
    go_wp2_with fail
    go_ret2
    exact ⟨0, by rw [HR.out]; rfl, fun v hv => (by rw [HR.out] at hv; cases hv), Below.refl _ _⟩
theorem has_0x (l : List UInt8) (w : World) : Calls Tryd.prog 46 #[.string (strOf l), .string { data := #[48, 120] }] w fun e w' => e = .returned (.bool (parP l)) ∧ w' = w := Tryd.strings_HasPrefix (strOf l) { data := #[48, 120] } w
set_option maxHeartbeats 1000000 in
theorem isa_immediate (l : List UInt8) (w : World) (hl : l.length ≤ 1099511627776) (hT : DigT w) : Calls Tryd.prog 34 #[.string (strOf l)] w fun e w' => ∃ n : Int, e = .returned (.tuple #[.int .u64 n, .bool (immW l).isSome]) ∧ (∀ v, immW l = some v → n = v) ∧ Below w.heap.size w w' := by
  have CH := Lib.hid (has_0x l w)
  have CP := Lib.hid (digits_Parse l w hl hT)
  have HI := Lib.hid (immW_word l)
  generalize immW l = o at *
  obtain ⟨x, hx⟩ : ∃ x : Int, x = (parV l : Int) := ⟨_, rfl⟩
  rw [← hx] at CP HI
  generalize parE l = er at *
  clear hx hl hT
  cases hp : parP l
  · rw [hp] at CH HI
    by_cases he : er = 0
    · have t0 : (er == 0) = true := by rw [he]; rfl
      have HE : Hid (o = some x) := by show _ = _; rw [HI.out, if_pos ⟨rfl, he⟩]
      clear he hp
      go_enter Tryd.func34, Tryd.ntmps34
      go_wp2_with fail
      refine CH.out.mono ?_
      rintro e w1 ⟨rfl, rfl⟩
      go_wp2_with fail
      refine CP.out.mono ?_
      rintro e w2 ⟨rfl, b2⟩
      have B2 := Lib.hid b2
      clear b2
      go_wp2_with fail
      go_ret2
      exact ⟨x, by rw [HE.out]; rfl, fun v hv => (by rw [HE.out] at hv; exact Option.some.inj hv), B2.out⟩
    · have t0 : (er == 0) = false := beqf he
      have HE : Hid (o = none) := by show _ = _; rw [HI.out, if_neg (fun h => he h.2)]
      clear he hp
      go_enter Tryd.func34, Tryd.ntmps34
      go_wp2_with fail
      refine CH.out.mono ?_
      rintro e w1 ⟨rfl, rfl⟩
      go_wp2_with fail
      refine CP.out.mono ?_
      rintro e w2 ⟨rfl, b2⟩
      have B2 := Lib.hid b2
      clear b2
      go_wp2_with fail
      go_ret2
      exact ⟨x, by rw [HE.out]; rfl, fun v hv => (by rw [HE.out] at hv; cases hv), B2.out⟩
  · rw [hp] at CH HI
    have HE : Hid (o = none) := by show _ = _; rw [HI.out, if_neg (by simp)]
    clear hp CP
    go_enter Tryd.func34, Tryd.ntmps34
    go_wp2_with fail
    refine CH.out.mono ?_
    rintro e w1 ⟨rfl, rfl⟩
    go_wp2_with fail
    go_ret2
    exact ⟨0, by rw [HE.out]; rfl, fun v hv => (by rw [HE.out] at hv; cases hv), Below.refl _ _⟩
end Go.Proofs.Sat
/- Registers and the first line: isa and the reference. -/
namespace Go.Proofs.Sat
open Go Go.RowKit
theorem regsW_snoc (l : List (List UInt8)) (p : List UInt8) : regsW (l ++ [p]) = (regsW l).bind fun X => (regW p).map fun n => X ++ [n] := by
  induction l with
  | nil =>
    show regsW [p] = _
    rw [regsW]
    cases h : regW p <;> simp [regsW, h]
  | cons q l ih =>
    rw [List.cons_append, regsW, regsW, ih]
    cases regW q with
    | none => rfl
    | some m =>
      cases regsW l with
      | none => rfl
      | some X => cases regW p <;> rfl
theorem regsW_bad {ws : List (List UInt8)} {k : Nat} (hk : k < ws.length) (h : regW ws[k] = none) : regsW ws = none := by
  induction ws generalizing k with
  | nil => simp at hk
  | cons q l ih =>
    rw [regsW]
    cases k with
    | zero =>
      have h' : regW q = none := h
      rw [h']
    | succ k =>
      have h' := ih (k := k) (by simpa using hk) h
      rw [h']
      cases regW q <;> rfl
/-- The words of a line lie in a row. -/
abbrev RdW (S : Nat → Prop) (w : World) (a : Option Addr) (c : Nat) (ws : List (List UInt8)) : Prop := Rd Kd.str S w a c (ws.map strOf)
theorem RdW.at {S : Nat → Prop} {w : World} {a : Option Addr} {c : Nat} {ws : List (List UInt8)} (h : RdW S w a c ws) {k : Nat} (hk : k < ws.length) : ∃ b o, a = some ⟨b, o, none⟩ ∧ w.cell? ⟨b, o + k, none⟩ = some (.string (strOf ws[k])) := by
  obtain ⟨b, o, e, -, -, hc⟩ := h.vals (by rw [List.length_map]; omega) ByteArray.empty
  refine ⟨b, o, e, ?_⟩
  have d := hc k (by rw [List.length_map]; exact hk)
  rwa [getD_str _ (by rw [List.length_map]; exact hk), List.getElem_map] at d
abbrev WordsOK (ws : List (List UInt8)) : Prop := ws.length ≤ 1000000000 ∧ ∀ p ∈ ws, p.length ≤ 1099511627776
theorem optB_some {α : Type} {o : Option α} {v : α} (h : o = some v) : o.isSome = true := by rw [h]; rfl
set_option maxRecDepth 20000 in
set_option maxHeartbeats 2000000 in
theorem isa_registers (S : Nat → Prop) (a : Option Addr) (c : Nat) (ws : List (List UInt8)) (w : World) (hT : DigT w) (hR : RdW S w a c ws) (hW : WordsOK ws) :
    Calls Tryd.prog 21 #[.slice a ws.length c] w fun e w' => ∃ v, e = .returned (.tuple #[v, .bool (regsW ws).isSome]) ∧ Own (Kd.int .i64) 3 NoS w' w.heap.size v ((regsW ws).getD []) ∧ Below w.heap.size w w' := by
  have HR := Lib.hid hR
  have HT := Lib.hid hT
  have HW := Lib.hid hW
  obtain ⟨n, hn⟩ : ∃ n, n = ws.length := ⟨_, rfl⟩
  have HN := Lib.hid hn
  have hnl : n ≤ 1000000000 := by rw [hn]; exact hW.1
  rw [← hn]
  clear hn hR hT hW
  go_enter Tryd.func21, Tryd.ntmps21
  go_wp2_with fail
  go_loopw [4, 11] (fun v i wr => ∃ (k : Nat) (X : List Int), k ≤ n ∧ i = .int .i64 k ∧ X.length ≤ k ∧ Hid (regsW (ws.take k) = some X) ∧ Hid (Own (Kd.int .i64) 3 NoS wr w.heap.size v X) ∧ Hid (Below w.heap.size w wr)) (fun _ i _ => n - (intOf i).toNat)
  case atStart => exact ⟨0, [], by omega, rfl, by simp, by show _ = _; rw [List.take_zero]; rfl, Own.nil _ _ _ _ _, by first | exact Below.refl _ _ | exact (Drawn.of _ _).below _⟩
  case round =>
    obtain ⟨k, X, hk, rfl, hX, HX, O4, B4⟩ := hrel
    by_cases hlt : k < n
    · have HLT : Hid (k < ws.length) := by show _ < _; rw [← HN.out]; exact hlt
      have hkl : (k : Int) < (n : Int) := by omega
      obtain ⟨b, o, rfl, d5⟩ := RdW.at (HR.out.frame (Same.below B4.out)) HLT.out
      have hpk := HW.out.2 _ (List.getElem_mem HLT.out)
      have CP := Lib.hid (fun W hW => isa_register (ws[k]'HLT.out) W hpk hW)
      have HT4 := Lib.hid (HT.out.below B4.out)
      have HTK : Hid (ws.take (k + 1) = ws.take k ++ [ws[k]'HLT.out]) := List.take_succ_eq_append_getElem HLT.out
      have HBD := Lib.hid (fun h => regsW_bad HLT.out h)
      generalize ws[k]'HLT.out = p at *
      obtain ⟨W4, hW4⟩ : ∃ W4, W4 = wr := ⟨_, rfl⟩
      subst hW4
      obtain ⟨a4, c4, rfl⟩ := O4.out.form
      clear hpk
      cases hp : regW p with
      | none =>
        rw [hp] at CP
        have CP2 : Hid (∀ W, DigT W → Calls Tryd.prog 33 #[.string (strOf p)] W fun e w' => ∃ n : Int, e = .returned (.tuple #[.int .i64 n, .bool false]) ∧ (∀ v, (none : Option Int) = some v → n = v) ∧ Below W.heap.size W w') := CP.out
        have HE := Lib.hid (HBD.out hp)
        clear CP hp HBD
        go_wp2_with (first
          | (go_at_call 33; refine (CP2.out _ HT4.out).mono ?_; rintro e w5 ⟨m, rfl, -, b5⟩; have B5 := Lib.hid (below_then B4.out B4.out.size b5); clear b5)
          | fail)
        go_ret2
        exact ⟨_, by rw [HE.out]; rfl, by rw [HE.out]; exact Own.nil _ _ _ _ _, B5.out⟩
      | some m0 =>
        rw [hp] at CP
        have CP2 : Hid (∀ W, DigT W → Calls Tryd.prog 33 #[.string (strOf p)] W fun e w' => e = .returned (.tuple #[.int .i64 m0, .bool true]) ∧ Below W.heap.size W w') := fun W hW => (CP.out W hW).mono fun e w' ⟨n, he, hn, hb⟩ => ⟨by rw [he, hn m0 rfl]; rfl, hb⟩
        have HX2 : Hid (regsW (ws.take (k + 1)) = some (X ++ [m0])) := by show _ = _; rw [HTK.out, regsW_snoc, HX.out, hp]; rfl
        clear CP hp HBD
        go_wp2_with (first
          | (go_at_call 33; refine (CP2.out _ HT4.out).mono ?_; rintro e w5 ⟨rfl, b5⟩; have O5 := Lib.hid (O4.out.below b5); have B5 := Lib.hid (below_then B4.out B4.out.size b5); clear b5)
          | (at_builtin; refine wpList_append_ev _ rfl _ _ 29 rfl _ _ rfl rfl _ (run_app1 w5 infoInt rfl _ O5.out 3 [.int .i64 m0] m0 rfl (by omega) (by omega) B5.out.size) ?_; rintro n2 w6 ⟨ow2, g2, v2, _⟩; have B6 := Lib.hid (B5.out.grown g2 B5.out.size (fun k hk => (O5.out.lt k hk).1)); have O6 := Lib.hid ow2; clear ow2 g2 v2)
          | fail)
        go_roundw
        case rel => exact ⟨k + 1, X ++ [m0], by omega, by go_num, by rw [List.length_append, List.length_singleton]; omega, HX2.out, O6.out, B6.out⟩
        case measure => simp [intOf]; omega
    · have hnl : ¬ ((k : Int) < (n : Int)) := by omega
      have HE : Hid (regsW ws = some X) := by
        have h := HX.out
        rw [List.take_of_length_le (by have := HN.out; omega)] at h
        exact h
      clear hlt hk
      go_wp2_with fail
      go_ret2
      exact ⟨_, by rw [HE.out]; rfl, by rw [HE.out]; exact O4.out, B4.out⟩
end Go.Proofs.Sat
/- The first line: isa.header and the reference's head. -/
namespace Go.Proofs.Sat
open Go Go.RowKit
theorem part_le {s : UInt8} : ∀ {l p : List UInt8}, p ∈ spl s l → p.length ≤ l.length := by
  intro l
  induction l with
  | nil => intro p hp; simp [spl] at hp; subst hp; simp
  | cons c r ih =>
    intro p hp
    unfold spl at hp
    split at hp
    · rcases List.mem_cons.1 hp with rfl | hp
      · simp
      · have := ih hp; simp; omega
    · cases hs : spl s r with
      | nil => exact absurd hs (spl_ne _ _)
      | cons a b =>
        rw [hs] at hp ih
        simp only [glue] at hp
        rcases List.mem_cons.1 hp with rfl | hp
        · have := ih (p := a) (by simp); simp; omega
        · have := ih (p := p) (by simp [hp]); simp; omega
theorem spl_words {s : UInt8} {l : List UInt8} (h : l.length ≤ 900000000) : WordsOK (spl s l) := by
  refine ⟨by have := spl_len s l; omega, fun p hp => by have := part_le hp; omega⟩
theorem split_one' (s : UInt8) (l : List UInt8) (w : World) (hl : l.length ≤ 900000000) (hT : MaxT w) :
    Calls Tryd.prog 19 #[.string (strOf l), .string (strOf [s])] w fun e w' => ∃ a c, e = .returned (.slice a (spl s l).length c) ∧ RdW (fun b => w.heap.size ≤ b) w' a c (spl s l) ∧ Below w.heap.size w w' :=
  (split_one s l w (by omega) hT).mono fun e w' h => ⟨_, _, h.1, h.2.1, h.2.2⟩
theorem headW_four {l a b c d : List UInt8} (h : spl 32 l = [a, b, c, d]) : headW l = if a = wWidth ∧ c = wRegs then (match numW b, numW d with
    | some x, some y => some (x, y)
    | _, _ => none) else none := by unfold headW; rw [h]; rfl
theorem headW_not {l : List UInt8} (h : (spl 32 l).length ≠ 4) : headW l = none := by
  unfold headW
  split
  · rename_i a b c d hs
    rw [hs] at h
    exact absurd rfl h
  · rfl
theorem four_of {α : Type} {l : List α} (h : l.length = 4) : ∃ a b c d, l = [a, b, c, d] := by
  match l, h with
  | [a, b, c, d], _ => exact ⟨a, b, c, d, rfl⟩
theorem head_some {b d : List UInt8} {n m : Int} (hn : ∀ v, numW b = some v → n = v) (hm : ∀ v, numW d = some v → m = v) : ((match numW b, numW d with
    | some x, some y => some (x, y)
    | _, _ => none).isSome = ((numW b).isSome && (numW d).isSome)) ∧ ∀ p, (match numW b, numW d with
    | some x, some y => some (x, y)
    | _, _ => none) = some p → (n, m) = p := by
  cases hb : numW b with
  | none => exact ⟨rfl, fun p h => by cases h⟩
  | some x => cases hd : numW d with
    | none => exact ⟨rfl, fun p h => by cases h⟩
    | some y => exact ⟨rfl, fun p h => by cases h; rw [hn x hb, hm y hd]⟩
set_option maxRecDepth 20000 in
set_option maxHeartbeats 4000000 in
theorem isa_header (l : List UInt8) (w : World) (hl : l.length ≤ 900000000) (hT : DigT w) : Calls Tryd.prog 20 #[.string (strOf l)] w fun e w' => ∃ n m : Int, e = .returned (.tuple #[.int .i64 n, .int .i64 m, .bool (headW l).isSome]) ∧ (∀ p, headW l = some p → (n, m) = p) ∧ Below w.heap.size w w' := by
  have CS := Lib.hid (split_one' 32 l w hl hT.maxl)
  have hwd := spl_words (s := 32) hl
  have HNF := Lib.hid (fun h => headW_not (l := l) h)
  have HFO := Lib.hid (fun a b c d h => headW_four (l := l) (a := a) (b := b) (c := c) (d := d) h)
  generalize headW l = o at *
  generalize spl 32 l = ws at *
  have HWD := Lib.hid hwd
  have HT := Lib.hid hT
  clear hT
  clear hl hwd
  go_enter Tryd.func20, Tryd.ntmps20
  by_cases h4 : ws.length = 4
  case neg =>
    have HE := Lib.hid (HNF.out h4)
    obtain ⟨n, hn⟩ : ∃ n, n = ws.length := ⟨_, rfl⟩
    rw [← hn] at CS
    have t0 : (n == 4) = false := by rw [beq_eq_false_iff_ne]; omega
    have t1 : ((n : Int) == 4) = false := by rw [beq_eq_false_iff_ne]; omega
    have t2 : ((n : Int) != 4) = true := by rw [bne_iff_ne]; omega
    clear h4 hn
    go_wp2_with fail
    refine CS.out.mono ?_
    rintro e w1 ⟨a, c, rfl, r1, b1⟩
    have B1 := Lib.hid b1
    clear b1 r1
    go_wp2_with fail
    go_ret3
    exact ⟨0, 0, by rw [HE.out]; rfl, fun p hp => (by rw [HE.out] at hp; cases hp), B1.out⟩
  obtain ⟨p0, p1, p2, p3, rfl⟩ := four_of h4
  have HF := Lib.hid (HFO.out _ _ _ _ rfl)
  have h1l := HWD.out.2 p1 (by simp)
  have h3l := HWD.out.2 p3 (by simp)
  have CS2 : Hid (Calls Tryd.prog 19 #[.string (strOf l), .string (strOf [32])] w fun e w' => ∃ a c, e = .returned (.slice a 4 c) ∧ RdW (fun b => w.heap.size ≤ b) w' a c [p0, p1, p2, p3] ∧ Below w.heap.size w w') := CS.out
  have CN1 := Lib.hid ((fun (p : List UInt8) (h : p.length ≤ 1099511627776) (W : World) (hW : DigT W) => isa_number p W h hW) p1)
  have CN3 := Lib.hid ((fun (p : List UInt8) (h : p.length ≤ 1099511627776) (W : World) (hW : DigT W) => isa_number p W h hW) p3)
  have ht0 := toList_strOf p0
  have ht2 := toList_strOf p2
  clear CS h4 HNF HFO
  by_cases hc : p0 = wWidth ∧ p2 = wRegs
  · rw [if_pos hc] at HF
    obtain ⟨rfl, rfl⟩ := hc
    have HH := Lib.hid (fun n m hn hm => head_some (b := p1) (d := p3) (n := n) (m := m) hn hm)
    rw [← HF.out] at HH
    generalize (numW p1).isSome = s1 at *
    generalize (numW p3).isSome = s3 at *
    clear HF
    go_wp2_with fail
    refine CS2.out.mono ?_
    rintro e w1 ⟨a, c, rfl, r1, b1⟩
    have B1 := Lib.hid b1
    have R1 := Lib.hid r1
    obtain ⟨b, o, rfl, d0⟩ := r1.at (k := 0) (by simp)
    obtain ⟨_, _, e1, d1⟩ := r1.at (k := 1) (by simp)
    obtain ⟨_, _, e2, d2⟩ := r1.at (k := 2) (by simp)
    cases e1
    cases e2
    simp only [List.getElem_cons_zero, List.getElem_cons_succ, Nat.add_zero] at d0 d1 d2
    clear b1 r1 CS2
    go_wp2_with fail
    refine (CN1.out h1l w1 (HT.out.below B1.out)).mono ?_
    rintro e w2 ⟨n, rfl, hn, b2⟩
    have B2 := Lib.hid (below_both B1.out b2)
    have HN := Lib.hid hn
    have R2 := Lib.hid (R1.out.frame (Same.below b2))
    clear b2 hn d0 d1 d2
    obtain ⟨_, _, e3, d3⟩ := RdW.at R2.out (k := 3) (by simp)
    cases e3
    simp only [List.getElem_cons_zero, List.getElem_cons_succ] at d3
    go_wp2_with fail
    refine (CN3.out h3l w2 (HT.out.below B2.out)).mono ?_
    rintro e w3 ⟨m, rfl, hm, b3⟩
    have B3 := Lib.hid (below_both B2.out b3)
    have HM := Lib.hid hm
    clear b3 hm d3
    have HHH := Lib.hid (HH.out n m HN.out HM.out)
    clear HH
    cases s1
    · go_wp2_with fail
      go_ret3
      exact ⟨n, m, by rw [HHH.out.1]; rfl, HHH.out.2, B3.out⟩
    · go_wp2_with fail
      go_ret3
      exact ⟨n, m, by rw [HHH.out.1]; rfl, HHH.out.2, B3.out⟩
  · rw [if_neg hc] at HF
    have hway : (p0 == [119, 105, 100, 116, 104]) = false ∨ ((p0 == [119, 105, 100, 116, 104]) = true ∧ (p2 == [114, 101, 103, 115]) = false) := by
      by_cases h0 : p0 = wWidth
      · right
        exact ⟨by rw [beq_iff_eq]; exact h0, by rw [beq_eq_false_iff_ne]; exact fun h => hc ⟨h0, h⟩⟩
      · left; rw [beq_eq_false_iff_ne]; exact h0
    clear hc CN1 CN3 h1l h3l
    rcases hway with t0 | ⟨t0, t2⟩
    all_goals
      go_wp2_with fail
      refine CS2.out.mono ?_
      rintro e w1 ⟨a, c, rfl, r1, b1⟩
      have B1 := Lib.hid b1
      obtain ⟨b, o, rfl, d0⟩ := r1.at (k := 0) (by simp)
      obtain ⟨_, _, e2, d2⟩ := r1.at (k := 2) (by simp)
      cases e2
      simp only [List.getElem_cons_zero, List.getElem_cons_succ, Nat.add_zero] at d0 d2
      clear b1 r1 CS2
      go_wp2_with fail
      go_ret3
      exact ⟨0, 0, by rw [HF.out]; rfl, fun p hp => (by rw [HF.out] at hp; cases hp), B1.out⟩
end Go.Proofs.Sat
