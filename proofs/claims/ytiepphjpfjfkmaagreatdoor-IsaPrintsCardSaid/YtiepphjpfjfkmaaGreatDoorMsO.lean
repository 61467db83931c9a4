/- MsN, MsO, one after the other. -/
import Derived.Test.YtiepphjpfjfkmaaGreatDoorMsM
set_option linter.unusedVariables false
set_option linter.unusedSimpArgs false
/- Parse of package isa. -/
namespace Go.Proofs.Sat
open Go Go.RowKit
/-- The end of a function of three results, the first a struct in memory, the block known whole. -/
theorem bodyPost_ret_block3 {P : Program} {fn : Func} {R : Ending → World → Prop} {a : Act} {w : World} {r s u : Tmp} {t t0 : TypeId} {cs : Array Value} {v v' : Value} (g : Nat) (fr : Nat × Nat) (d : TypeDesc)
    (hres : fn.results = #[.cell r t, .tmp s, .tmp u]) (ha : a.tmps.getD r undef = .pointer (some ⟨g, 0, none⟩)) (hv : a.tmps.getD s undef = v) (hv2 : a.tmps.getD u undef = v') (hg : w.heap[g]? = some (.cells cs t0 fr))
    (hu : P.underlying t = some d) (hd : (match d with | .struct _ | .array _ _ => true | _ => false) = true) (hi : (P.info? t).map (·.size) = some cs.size)
    (hdef : a.defers = []) (h : R (.returned (.tuple #[.agg cs, v, v'])) w) : bodyPost P fn R .ret a w := by
  refine bodyPost_ret ?_ hdef h
  have := run_loadVar_row (P := P) w g t0 t cs fr d hg hu hd hi
  have ha' : a.tmps[r]?.getD undef = .pointer (some ⟨g, 0, none⟩) := by simpa using ha
  have hv' : a.tmps[s]?.getD undef = v := by simpa using hv
  have hv2' : a.tmps[u]?.getD undef = v' := by simpa using hv2
  simp [results, hres, ha', hv', hv2', asAddr, this]
abbrev ParP (s : List UInt8) (w : World) : Ending → World → Prop := fun e w' => ∃ (c : Cd) (p : CdAt) (k er : Int), e = .returned (.tuple #[cdVal c p, .int .i64 k, .int .i64 er]) ∧ (c, k, er) = parseW s ∧ CdRd (fun b => w.heap.size ≤ b) w' c p ∧ Below w.heap.size w w'
abbrev zAt : CdAt := ⟨none, 0, none, 0⟩
theorem z_rd (S : Nat → Prop) (w : World) : CdRd S w zCd zAt := ⟨Rd.nil _ _ _ _ _ (by show (0 : Nat) ≤ _; omega), Rd.nil _ _ _ _ _ (by show (0 : Nat) ≤ _; omega)⟩
/-- What the lines give. -/
def restW : List (List UInt8) → Cd × Int × Int
  | [] => (zCd, 1, 6)
  | l :: r => match headW l with
    | none => (zCd, 1, 6)
    | some (w, n) => bodyW w n [] 1 r
theorem parseW_long {s : List UInt8} (h : 65536 < s.length) : parseW s = (zCd, 0, 7) := by unfold parseW; rw [if_pos h]
theorem parseW_rest {s : List UInt8} (h : ¬ 65536 < s.length) : parseW s = restW (linesW s) := by
  unfold parseW
  rw [if_neg h]
  cases linesW s with
  | nil => rfl
  | cons l r => rfl
theorem linesW_yes {s : List UInt8} {n : Nat} (hn : (spl 10 s).length = n + 1) (hlt : n < (spl 10 s).length) (h : (spl 10 s)[n]'hlt = []) : linesW s = (spl 10 s).take n := by
  have hne : spl 10 s ≠ [] := spl_ne _ _
  unfold linesW
  rw [if_pos, List.dropLast_eq_take, hn]
  · rfl
  · rw [List.getLast?_eq_getElem?, hn, Nat.add_sub_cancel, List.getElem?_eq_getElem hlt, h]
theorem linesW_no {s : List UInt8} {n : Nat} (hn : (spl 10 s).length = n + 1) (hlt : n < (spl 10 s).length) (h : (spl 10 s)[n]'hlt ≠ []) : linesW s = spl 10 s := by
  have hne : spl 10 s ≠ [] := spl_ne _ _
  unfold linesW
  rw [if_neg]
  rw [List.getLast?_eq_getElem?, hn, Nat.add_sub_cancel, List.getElem?_eq_getElem hlt]
  intro e
  exact h (Option.some.inj e)
/-- What is still to come, in the midst of the lines. -/
def stW (done : Bool) (j : Nat) (c : Cd) (rest : List (List UInt8)) : Cd × Int × Int :=
  if done = true then (if rest = [] then endW c else (zCd, (j : Int) + 1, 6)) else if j = 0 then restW rest else bodyW c.width c.regs c.ins j rest
theorem st_zero (c : Cd) (rest : List (List UInt8)) : stW false 0 c rest = restW rest := rfl
theorem st_head_bad {c : Cd} {l : List UInt8} {r : List (List UInt8)} (h : headW l = none) : stW false 0 c (l :: r) = (zCd, 1, 6) := by
  rw [st_zero, restW, h]
theorem st_head {c : Cd} {l : List UInt8} {r : List (List UInt8)} {a b : Int} (hi : c.ins = []) (h : headW l = some (a, b)) : stW false 0 c (l :: r) = stW false 1 ⟨a, b, c.ins, c.out⟩ r := by
  rw [st_zero, restW, h, hi]
  rfl
theorem st_done {j : Nat} {c : Cd} {l : List UInt8} {r : List (List UInt8)} : stW true j c (l :: r) = (zCd, (j : Int) + 1, 6) := rfl
theorem st_out_bad {j : Nat} {c : Cd} {l : List UInt8} {r : List (List UInt8)} {p : List (List UInt8)} (hj : j ≠ 0) (hs : spl 32 l = wOut :: p) (h : regsW p = none) : stW false j c (l :: r) = (zCd, (j : Int) + 1, 6) := by
  unfold stW
  rw [if_neg (by simp), if_neg hj, bodyW, hs, List.head?_cons, if_pos rfl, List.tail_cons, h]
theorem st_out {j : Nat} {c : Cd} {l : List UInt8} {r : List (List UInt8)} {p : List (List UInt8)} {o : List Int} (hj : j ≠ 0) (hs : spl 32 l = wOut :: p) (h : regsW p = some o) : stW false j c (l :: r) = stW true (j + 1) ⟨c.width, c.regs, c.ins, o⟩ r := by
  have e : stW false j c (l :: r) = if r = [] then endW ⟨c.width, c.regs, c.ins, o⟩ else (zCd, (j : Int) + 2, 6) := by
    unfold stW
    rw [if_neg (by simp), if_neg hj, bodyW, hs, List.head?_cons, if_pos rfl, List.tail_cons, h]
  rw [e]
  unfold stW
  rw [if_pos rfl]
  split
  · rfl
  · rw [show ((j + 1 : Nat) : Int) + 1 = (j : Int) + 2 by omega]
theorem st_ins_bad {j : Nat} {c : Cd} {l : List UInt8} {r : List (List UInt8)} {q : List UInt8} {p : List (List UInt8)} (hj : j ≠ 0) (hs : spl 32 l = q :: p) (hq : q ≠ wOut) (h : insW (q :: p) = none) : stW false j c (l :: r) = (zCd, (j : Int) + 1, 6) := by
  unfold stW
  rw [if_neg (by simp), if_neg hj, bodyW, hs, List.head?_cons, if_neg (fun e => hq (Option.some.inj e)), h]
theorem st_ins {j : Nat} {c : Cd} {l : List UInt8} {r : List (List UInt8)} {q : List UInt8} {p : List (List UInt8)} {x : In} (hj : j ≠ 0) (hs : spl 32 l = q :: p) (hq : q ≠ wOut) (h : insW (q :: p) = some x) : stW false j c (l :: r) = stW false (j + 1) ⟨c.width, c.regs, c.ins ++ [x], c.out⟩ r := by
  unfold stW
  rw [if_neg (by simp), if_neg hj, bodyW, hs, List.head?_cons, if_neg (fun e => hq (Option.some.inj e)), h, if_neg (by simp), if_neg (by omega)]
theorem st_end {j : Nat} {c : Cd} (hj : j ≠ 0 ∨ j = 0) : stW false j c [] = (zCd, (j : Int) + 1, 6) := by
  by_cases h : j = 0
  · subst h; rfl
  · unfold stW
    rw [if_neg (by simp), if_neg h, bodyW]
theorem inVal_inj {x y : In} (h : inVal x = inVal y) : x = y := by
  cases x; cases y
  simp [inVal] at h
  simp [h]
theorem cdIx_bounds (c : Cd) : -1 ≤ cdIx c ∧ cdIx c ≤ 256 := by
  unfold cdIx
  repeat' split
  all_goals (try omega)
  · have : insIx c.width c.regs c.ins ≤ c.ins.length := List.findIdx_le_length
    omega
theorem own_set {α : Type} {d : Kd α} {e : TypeId} {w : World} {g i : Nat} {v : Value} {xs : List α} (h : Own d e NoS w (g + 1) v xs) (u : Value) : Own d e NoS (w.setCell ⟨g, i, none⟩ u) (g + 1) v xs :=
  h.same (same_set (fun b hb => by
    rcases hb with hb | hb
    · exact hb.elim
    · have := (h.lt b hb.symm).1; omega) u)
theorem same_setg {g i : Nat} {w w' : World} (h : Same (fun b => b < g) w w') (u : Value) : Same (fun b => b < g) w (w'.setCell ⟨g, i, none⟩ u) :=
  ⟨by simpa [World.setCell] using h.1, fun b hb hlt => (Below.heap_setCell w' _ u b (by show b ≠ g; omega)).trans (h.2 b hb hlt)⟩
theorem four_0 {w : World} {g : Nat} {t : TypeId} {v0 v1 v2 v3 : Value} (h : w.heap[g]? = some (.cells #[v0, v1, v2, v3] t (0, 0))) (u : Value) : (w.setCell ⟨g, 0, none⟩ u).heap[g]? = some (.cells #[u, v1, v2, v3] t (0, 0)) := by
  simp [World.setCell, Array.getElem?_modify, h]
theorem four_1 {w : World} {g : Nat} {t : TypeId} {v0 v1 v2 v3 : Value} (h : w.heap[g]? = some (.cells #[v0, v1, v2, v3] t (0, 0))) (u : Value) : (w.setCell ⟨g, 1, none⟩ u).heap[g]? = some (.cells #[v0, u, v2, v3] t (0, 0)) := by
  simp [World.setCell, Array.getElem?_modify, h]
theorem four_2 {w : World} {g : Nat} {t : TypeId} {v0 v1 v2 v3 : Value} (h : w.heap[g]? = some (.cells #[v0, v1, v2, v3] t (0, 0))) (u : Value) : (w.setCell ⟨g, 2, none⟩ u).heap[g]? = some (.cells #[v0, v1, u, v3] t (0, 0)) := by
  simp [World.setCell, Array.getElem?_modify, h]
theorem four_3 {w : World} {g : Nat} {t : TypeId} {v0 v1 v2 v3 : Value} (h : w.heap[g]? = some (.cells #[v0, v1, v2, v3] t (0, 0))) (u : Value) : (w.setCell ⟨g, 3, none⟩ u).heap[g]? = some (.cells #[v0, v1, v2, u] t (0, 0)) := by
  simp [World.setCell, Array.getElem?_modify, h]
set_option maxRecDepth 20000 in
set_option maxHeartbeats 4000000 in
theorem isa_Parse (s : List UInt8) (w : World) (hl : s.length ≤ 1099511627776) (hT : DigT w) (hN : NamT w) (hK : IsaT w) : Calls Tryz.prog 14 #[.string (strOf s)] w (ParP s w) := by
  have HT := Lib.hid hT
  have HN := Lib.hid hN
  have HK := Lib.hid hK
  clear hT hN hK
  have B0 := Lib.hid (below_alloc (Below.refl w.heap.size w) (.cells #[.int .i64 0, .int .i64 0, .slice none 0 0, .slice none 0 0] 25))
  have KR0 := Lib.hid (heap_alloc_new w (.cells #[.int .i64 0, .int .i64 0, .slice none 0 0, .slice none 0 0] 25))
  have hsz := strOf_size s
  obtain ⟨m, hm⟩ : ∃ m, m = s.length := ⟨_, rfl⟩
  have HM := Lib.hid hm
  rw [← hm] at hsz hl
  clear hm
  by_cases hlong : 65536 < m
  · have HE : Hid (parseW s = (zCd, 0, 7)) := parseW_long (by rw [← HM.out]; exact hlong)
    have t0 : (65536 : Int) < (m : Int) := by omega
    obtain ⟨y0, y1, y2, y3⟩ := cd_block4 KR0.out
    have yf : ∀ i, (w.alloc (.cells #[.int .i64 0, .int .i64 0, .slice none 0 0, .slice none 0 0] 25)).frozen? ⟨w.heap.size, i, none⟩ = false := fun i => frozen_of_block KR0.out
    go_enter Tryz.func14, Tryz.ntmps14
    go_wp2_with fail
    refine bodyPost_ret_block3 (cs := #[.int .i64 0, .int .i64 0, .slice none 0 0, .slice none 0 0]) w.heap.size (0, 0) _ rfl rfl rfl rfl KR0.out Tryz.underlying25 rfl (by kernel_rfl) rfl ⟨zCd, zAt, 0, 7, by rfl, HE.out.symm, z_rd _ _, B0.out⟩
  have t0 : ¬ ((65536 : Int) < (m : Int)) := by omega
  have HP : Hid (parseW s = restW (linesW s)) := parseW_rest (by rw [← HM.out]; exact hlong)
  have CSP := Lib.hid (split_one' 10 s (w.alloc (.cells #[.int .i64 0, .int .i64 0, .slice none 0 0, .slice none 0 0] 25)) (by rw [← HM.out]; omega) (HT.out.below B0.out).maxl)
  have HW := Lib.hid (spl_words (s := 10) (l := s) (by rw [← HM.out]; omega))
  have HSL : Hid ((spl 10 s).length ≤ 65537) := by show _ ≤ _; have := spl_len 10 s; have := HM.out; omega
  have HPL : Hid (∀ p ∈ spl 10 s, p.length ≤ 65536) := fun p hp => by have := part_le hp; have := HM.out; omega
  obtain ⟨n, hn⟩ : ∃ n, (spl 10 s).length = n + 1 := ⟨(spl 10 s).length - 1, by have := List.length_pos_iff.2 (spl_ne 10 s); omega⟩
  have HY := Lib.hid (fun (h' : n < (spl 10 s).length) h => linesW_yes (s := s) hn h' h)
  have HNO := Lib.hid (fun (h' : n < (spl 10 s).length) h => linesW_no (s := s) hn h' h)
  have HNN := Lib.hid hn
  have HLN0 : Hid (∀ p ∈ linesW s, p.length ≤ 65536) := fun p hp => HPL.out p (by
    unfold linesW at hp
    split at hp
    · rw [List.dropLast_eq_take] at hp; exact List.mem_of_mem_take hp
    · exact hp)
  have hn65 : n ≤ 65536 := by have := HSL.out; omega
  rw [hn] at CSP
  clear hn hlong
  generalize linesW s = ls at *
  generalize spl 10 s = ws at *
  go_enter Tryz.func14, Tryz.ntmps14
  go_wp2_with fail
  refine CSP.out.mono ?_
  rintro e w1 ⟨a, c, rfl, r1, b1⟩
  have KR1 := Lib.hid (block_below b1 KR0.out)
  have B1 := Lib.hid (below_both B0.out b1)
  have hnl : n < ws.length := by rw [HNN.out]; omega
  have hc1 : n + 1 ≤ c := by have := r1.1; rw [List.length_map, HNN.out] at this; exact this
  obtain ⟨b, o, rfl, d0⟩ := RdW.at (k := n) r1 hnl
  have R1 := Lib.hid (Rd.lt r1)
  obtain ⟨A1, hcut1, hA1⟩ := cut_to Kd.str infoStr rfl (some ⟨b, o, none⟩) (n + 1) c n (n : Int) rfl (by omega)
  have hts := toList_strOf ws[n]
  have HY2 := Lib.hid (fun h => HY.out hnl h)
  have HN2 := Lib.hid (fun h => HNO.out hnl h)
  clear b1 r1 B0 KR0 CSP HY HNO
  generalize ws[n] = last at *
  go_upto_if 27 with fail
  go_cut [5] (fun s5 wx => ∃ (A : Option Addr) (k c' : Nat), s5 = .slice A k c' ∧ k ≤ 65537 ∧ Hid (k = ls.length) ∧ Hid (RdW (fun b => b < w1.heap.size) w1 A c' ls) ∧ wx = w1)
  case first =>
    by_cases hq : last = []
    · have HL : Hid (ls = ws.take n) := HY2.out hq
      have RL := Lib.hid (hA1 _ w1 _ (by rw [List.length_map, HNN.out]; omega) R1.out)
      clear hA1 HY2 HN2
      subst hq
      go_wp2_with fail
      go_meet
      case rel => exact ⟨A1, n, c, by first | rfl | go_num, by omega, by show _ = _; rw [HL.out, List.length_take, HNN.out]; omega, by rw [HL.out]; show Rd Kd.str _ _ _ _ _; rw [List.map_take]; exact RL.out, rfl⟩
    · have HL : Hid (ls = ws) := HN2.out hq
      clear hA1 HY2 HN2
      obtain ⟨z, zs, rfl⟩ : ∃ z zs, last = z :: zs := by
        cases last with
        | nil => exact absurd rfl hq
        | cons z zs => exact ⟨z, zs, rfl⟩
      clear hq
      go_wp2_with fail
      go_meet
      case rel => exact ⟨some ⟨b, o, none⟩, n + 1, c, by first | rfl | go_num, by omega, by show _ = _; rw [HL.out, HNN.out], by rw [HL.out]; exact R1.out, rfl⟩
  case rest =>
    obtain ⟨A2, k, c2, rfl, hk, HKL, R2, hwx⟩ := hcut
    subst hwx
    obtain ⟨W1, hW1⟩ : ∃ W1, W1 = wc := ⟨_, rfl⟩
    subst hW1
    have HLN : Hid (∀ p ∈ ls, p.length ≤ 65536) := HLN0.out
    obtain ⟨g6, hg6⟩ : ∃ g6, g6 = W1.heap.size := ⟨_, rfl⟩
    have KC2 := Lib.hid (heap_alloc_new W1 (.cells #[.int .i64 0, .int .i64 0, .slice none 0 0, .slice none 0 0] 25))
    have KR2 := Lib.hid (block_alloc KR1.out (.cells #[.int .i64 0, .int .i64 0, .slice none 0 0, .slice none 0 0] 25))
    have B2 := Lib.hid (below_alloc B1.out (.cells #[.int .i64 0, .int .i64 0, .slice none 0 0, .slice none 0 0] 25))
    have HSZ2 : Hid ((W1.alloc (.cells #[.int .i64 0, .int .i64 0, .slice none 0 0, .slice none 0 0] 25)).heap.size = W1.heap.size + 1) := by show _ = _; simp
    have hrg : w.heap.size < W1.heap.size := (Array.getElem?_eq_some_iff.1 KR1.out).1
    go_upto_region 7 with fail
    rw [← hg6] at KC2 HSZ2 hrg ⊢
    obtain ⟨W2, hW2⟩ : ∃ W2, W2 = W1.alloc (.cells #[.int .i64 0, .int .i64 0, .slice none 0 0, .slice none 0 0] 25) := ⟨_, rfl⟩
    rw [← hW2] at KC2 KR2 B2 HSZ2 ⊢
    have R3 : Hid (RdW (fun b => b < g6) W2 A2 c2 ls) := by
      have := R2.out.frame (Same.alloc (fun b => b < W1.heap.size) W1 (.cells #[.int .i64 0, .int .i64 0, .slice none 0 0, .slice none 0 0] 25))
      rw [← hW2, ← hg6] at this
      exact this
    clear hW2 hg6 KR1 B1 R2 R1
    go_wp2_with fail
    go_loopw [7, 35] (fun s7 s35 wr => ∃ (j : Nat) (done : Bool) (C : Cd) (va vo : Value), j ≤ k ∧ s7 = .bool done ∧ s35 = .int .i64 j ∧ Hid (done = true → 0 < j) ∧ Hid (done = false → vo = .slice none 0 0) ∧ Hid (wr.heap[g6]? = some (.cells #[.int .i64 C.width, .int .i64 C.regs, va, vo] 25 (0, 0))) ∧ Hid (wr.heap[w.heap.size]? = some (.cells #[.int .i64 0, .int .i64 0, .slice none 0 0, .slice none 0 0] 25 (0, 0))) ∧ Hid (Own kIn 48 NoS wr (g6 + 1) va C.ins) ∧ Hid (Own (Kd.int .i64) 3 NoS wr (g6 + 1) vo C.out) ∧ Hid (Below w.heap.size w wr) ∧ Hid (Same (fun b => b < g6) W2 wr) ∧ Hid (C.ins.length ≤ j) ∧ Hid (ImmOK C.ins) ∧ Hid (parseW s = stW done j C (ls.drop j))) (fun _ i _ => k - (intOf i).toNat)
    case atStart => exact ⟨0, false, zCd, .slice none 0 0, .slice none 0 0, by omega, rfl, rfl, fun h => (by cases h), fun _ => rfl, KC2.out, KR2.out, Own.nil _ _ _ _ _, Own.nil _ _ _ _ _, B2.out, ⟨Nat.le_refl _, fun _ _ _ => rfl⟩, by show _ ≤ _; simp, fun x hx => (by cases hx), HP.out⟩
    case round =>
      obtain ⟨j, done, C, va, vo, hj, rfl, rfl, HD, HVO, KC, KR, OA, OO, BB, SS, HCL, HIM, HPS⟩ := hrel
      obtain ⟨W, hW⟩ : ∃ W, W = wr := ⟨_, rfl⟩
      subst hW
      obtain ⟨ia, ic, rfl⟩ := OA.out.form
      obtain ⟨oa, oc, rfl⟩ := OO.out.form
      by_cases hlt : j < k
      case neg =>
        have hjk : j = k := by omega
        subst hjk
        have hji : ¬ ((j : Int) < (j : Int)) := by omega
        have HNIL : Hid (ls.drop j = []) := List.drop_eq_nil_of_le (by rw [← HKL.out]; omega)
        rw [HNIL.out] at HPS
        cases done with
        | false =>
          have HE : Hid (parseW s = (zCd, (j : Int) + 1, 6)) := HPS.out.trans (st_end (by omega))
          obtain ⟨y0, y1, y2, y3⟩ := cd_block4 KR.out
          have yf : ∀ i, W.frozen? ⟨w.heap.size, i, none⟩ = false := fun i => frozen_of_block KR.out
          go_wp2_with fail
          refine bodyPost_ret_block3 (cs := #[.int .i64 0, .int .i64 0, .slice none 0 0, .slice none 0 0]) w.heap.size (0, 0) _ rfl rfl rfl rfl (four_set KR.out _ _ _ _) Tryz.underlying25 rfl (by kernel_rfl) rfl ⟨zCd, zAt, (j : Int) + 1, 6, by first | rfl | (go_num), HE.out.symm, z_rd _ _, four_below BB.out (Nat.le_refl _) _ _ _ _⟩
        | true =>
          have HE : Hid (parseW s = endW C) := HPS.out
          have RC : Hid (CdRd (fun b => g6 + 1 ≤ b) W C ⟨ia, ic, oa, oc⟩) := ⟨(Own.rd' OA.out).mono (fun b _ h => h.elim (fun h => h.elim) id), (Own.rd' OO.out).mono (fun b _ h => h.elim (fun h => h.elim) id)⟩
          have CK := Lib.hid (isa_Check _ C ⟨ia, ic, oa, oc⟩ W (HK.out.below BB.out) RC.out)
          have hci := cdIx_bounds C
          have HEE : Hid (parseW s = if cdErr C = 0 then (C, 0, 0) else (zCd, cdIx C + 2, cdErr C)) := HE.out
          generalize cdIx C = ci at *
          generalize cdErr C = ce at *
          obtain ⟨z0, z1, z2, z3⟩ := cd_block4 KC.out
          go_wp2_with fail
          refine CK.out.mono ?_
          rintro e w7 ⟨rfl, b7⟩
          have KC7 := Lib.hid (block_below b7 KC.out)
          have KR7 := Lib.hid (block_below b7 KR.out)
          have BB7 := Lib.hid (below_both BB.out b7)
          have RC7 : Hid (CdRd (fun b => g6 + 1 ≤ b) w7 C ⟨ia, ic, oa, oc⟩) := ⟨RC.out.ins.frame (Same.below b7), RC.out.out.frame (Same.below b7)⟩
          by_cases hce : ce = 0
          · rw [if_pos hce] at HEE
            have t1 : (ce != 0) = false := by rw [bne_eq_false_iff_eq]; exact hce
            clear hce b7
            obtain ⟨q0, q1, q2, q3⟩ := cd_block4 KC7.out
            obtain ⟨y0, y1, y2, y3⟩ := cd_block4 KR7.out
            have yf : ∀ i, w7.frozen? ⟨w.heap.size, i, none⟩ = false := fun i => frozen_of_block KR7.out
            go_wp2_with fail
            refine bodyPost_ret_block3 (cs := #[.int .i64 C.width, .int .i64 C.regs, .slice ia C.ins.length ic, .slice oa C.out.length oc]) w.heap.size (0, 0) _ rfl rfl rfl rfl (four_set KR7.out _ _ _ _) Tryz.underlying25 rfl (by kernel_rfl) rfl ⟨C, ⟨ia, ic, oa, oc⟩, 0, 0, by first | rfl | (go_num), HEE.out.symm, CdRd.mono (fun b _ hb => by have : g6 + 1 ≤ b := hb; show w.heap.size ≤ b; omega) (RC7.out.frame (four_same (fun b hb => by have : g6 + 1 ≤ b := hb; omega) _ _ _ _)), four_below BB7.out (Nat.le_refl _) _ _ _ _⟩
          · rw [if_neg hce] at HEE
            have t1 : (ce != 0) = true := by rw [bne_iff_ne]; exact hce
            clear hce b7
            obtain ⟨y0, y1, y2, y3⟩ := cd_block4 KR7.out
            have yf : ∀ i, w7.frozen? ⟨w.heap.size, i, none⟩ = false := fun i => frozen_of_block KR7.out
            go_wp2_with fail
            refine bodyPost_ret_block3 (cs := #[.int .i64 0, .int .i64 0, .slice none 0 0, .slice none 0 0]) w.heap.size (0, 0) _ rfl rfl rfl rfl (four_set KR7.out _ _ _ _) Tryz.underlying25 rfl (by kernel_rfl) rfl ⟨zCd, zAt, ci + 2, ce, by first | rfl | (go_num), HEE.out.symm, z_rd _ _, four_below BB7.out (Nat.le_refl _) _ _ _ _⟩
      have hji : (j : Int) < (k : Int) := by omega
      have hjl : j < ls.length := by rw [← HKL.out]; exact hlt
      obtain ⟨b9, o9, rfl, d9⟩ := RdW.at (k := j) (R3.out.frame SS.out) hjl
      have HDR : Hid (ls.drop j = ls[j]'hjl :: ls.drop (j + 1)) := List.drop_eq_getElem_cons hjl
      have hln := HLN.out _ (List.getElem_mem hjl)
      generalize ls[j]'hjl = text at *
      rw [HDR.out] at HPS
      obtain ⟨more, hmore⟩ : ∃ more, more = ls.drop (j + 1) := ⟨_, rfl⟩
      rw [← hmore] at HPS
      have HMORE := Lib.hid hmore
      clear hmore
      obtain ⟨p, r, hpr⟩ : ∃ p r, spl 32 text = p :: r := by
        cases h : spl 32 text with
        | nil => exact absurd h (spl_ne _ _)
        | cons p r => exact ⟨p, r, rfl⟩
      have HWT := Lib.hid (spl_words (s := 32) (l := text) (by omega))
      obtain ⟨rn, hrn⟩ : ∃ rn, rn = r.length := ⟨_, rfl⟩
      have HRN := Lib.hid hrn
      have CSP : Hid (∀ W, DigT W → Calls Tryz.prog 35 #[.string (strOf text), .string (strOf [32])] W fun e w' => ∃ a c, e = .returned (.slice a (rn + 1) c) ∧ RdW (fun b => W.heap.size ≤ b) w' a c (p :: r) ∧ Below W.heap.size W w') := fun W hT => by
        have := split_one' 32 text W (by omega) hT.maxl
        rw [hpr] at this
        rw [hrn]
        exact this
      have HPR := Lib.hid hpr
      rw [hpr] at HWT
      have CHD := Lib.hid (fun W (hT : DigT W) => isa_header text W (by omega) hT)
      clear hpr hrn hln hjl HDR hlt
      go_wp2_with fail
      refine (CSP.out W (HT.out.below BB.out)).mono ?_
      rintro e w6 ⟨a6, c6, rfl, r6, b6⟩
      obtain ⟨W6, hW6⟩ : ∃ W6, W6 = w6 := ⟨_, rfl⟩
      subst hW6
      have KC6 := Lib.hid (block_below b6 KC.out)
      have KR6 := Lib.hid (block_below b6 KR.out)
      have OA6 := Lib.hid (OA.out.below b6)
      have OO6 := Lib.hid (OO.out.below b6)
      have BB6 := Lib.hid (below_both BB.out b6)
      have HGW : Hid (g6 < W.heap.size) := (Array.getElem?_eq_some_iff.1 KC.out).1
      have SS6 : Hid (Same (fun b => b < g6) W2 W6) := ⟨Nat.le_trans SS.out.1 b6.size, fun b hb hlt => (b6.block b (by have := HGW.out; omega)).trans (SS.out.2 b hb hlt)⟩
      have R6 := Lib.hid (Rd.lt r6)
      have hc6 : rn + 1 ≤ c6 := by have := r6.1; rw [List.length_map, List.length_cons, ← HRN.out] at this; exact this
      obtain ⟨b8, o8, rfl, d8⟩ := RdW.at (k := 0) r6 (by simp)
      simp only [List.getElem_cons_zero, Nat.add_zero] at d8
      have HS6 := Lib.hid b6.size
      clear b6 r6 d9 KC KR OA OO CSP
      by_cases hj0 : j = 0
      · subst hj0
        cases done with
        | true => exact absurd (HD.out rfl) (by omega)
        | false =>
          have HI0 : Hid (C.ins = []) := List.eq_nil_of_length_eq_zero (by have := HCL.out; omega)
          have hgr : w.heap.size ≠ g6 := by omega
          have HB1 := Lib.hid (fun h => HPS.out.trans (st_head_bad (c := C) (r := more) h))
          have HB2 := Lib.hid (fun a b h => HPS.out.trans (st_head (c := C) (r := more) (a := a) (b := b) HI0.out h))
          clear d8 hc6
          go_wp2_with fail
          refine (CHD.out W6 (HT.out.below BB6.out)).mono ?_
          rintro e w7 ⟨nw, nr, rfl, hnm, b7⟩
          have KC7 := Lib.hid (block_below b7 KC6.out)
          have KR7 := Lib.hid (block_below b7 KR6.out)
          have OA7 := Lib.hid (OA6.out.below b7)
          have OO7 := Lib.hid (OO6.out.below b7)
          have BB7 := Lib.hid (below_both BB6.out b7)
          have SS7 : Hid (Same (fun b => b < g6) W2 w7) := ⟨Nat.le_trans SS6.out.1 b7.size, fun b hb hlt => (b7.block b (by have := HGW.out; have := HS6.out; omega)).trans (SS6.out.2 b hb hlt)⟩
          have KC8 := Lib.hid (four_1 (four_0 KC7.out (.int .i64 nw)) (.int .i64 nr))
          have KR8 := Lib.hid (block_far (p := ⟨g6, 1, none⟩) (block_far (p := ⟨g6, 0, none⟩) KR7.out (.int .i64 nw) hgr) (.int .i64 nr) hgr)
          have OA8 := Lib.hid (own_set (i := 1) (own_set (i := 0) OA7.out (.int .i64 nw)) (.int .i64 nr))
          have OO8 := Lib.hid (own_set (i := 1) (own_set (i := 0) OO7.out (.int .i64 nw)) (.int .i64 nr))
          have BB8 := Lib.hid ((BB7.out.setCell (p := ⟨g6, 0, none⟩) (Nat.le_of_lt hrg) (.int .i64 nw)).setCell (p := ⟨g6, 1, none⟩) (Nat.le_of_lt hrg) (.int .i64 nr))
          have SS8 := Lib.hid (same_setg (i := 1) (same_setg (i := 0) SS7.out (.int .i64 nw)) (.int .i64 nr))
          obtain ⟨z0, z1, z2, z3⟩ := cd_block4 KC7.out
          have zf : ∀ i, w7.frozen? ⟨g6, i, none⟩ = false := fun i => frozen_of_block KC7.out
          obtain ⟨q0, q1, q2, q3⟩ := cd_block4 (four_0 KC7.out (.int .i64 nw))
          have qf : ∀ i, (w7.setCell ⟨g6, 0, none⟩ (.int .i64 nw)).frozen? ⟨g6, i, none⟩ = false := fun i => frozen_of_block (four_0 KC7.out (.int .i64 nw))
          clear b7 CHD
          cases hh : headW text with
          | none =>
            have HE : Hid (parseW s = (zCd, 1, 6)) := HB1.out hh
            obtain ⟨y0, y1, y2, y3⟩ := cd_block4 KR8.out
            have yf : ∀ i, ((w7.setCell ⟨g6, 0, none⟩ (.int .i64 nw)).setCell ⟨g6, 1, none⟩ (.int .i64 nr)).frozen? ⟨w.heap.size, i, none⟩ = false := fun i => frozen_of_block KR8.out
            go_wp2_with fail
            refine bodyPost_ret_block3 (cs := #[.int .i64 0, .int .i64 0, .slice none 0 0, .slice none 0 0]) w.heap.size (0, 0) _ rfl rfl rfl rfl (four_set KR8.out _ _ _ _) Tryz.underlying25 rfl (by kernel_rfl) rfl ⟨zCd, zAt, 1, 6, by first | rfl | (go_num), HE.out.symm, z_rd _ _, four_below BB8.out (Nat.le_refl _) _ _ _ _⟩
          | some ab =>
            obtain ⟨a0, b0⟩ := ab
            have HE := Lib.hid (HB2.out a0 b0 hh)
            have h1 : nw = a0 ∧ nr = b0 := by have := hnm _ hh; cases this; exact ⟨rfl, rfl⟩
            obtain ⟨rfl, rfl⟩ := h1
            clear hnm hh
            go_wp2_with fail
            go_roundw
            case rel => exact ⟨1, false, ⟨nw, nr, C.ins, C.out⟩, .slice ia C.ins.length ic, .slice oa C.out.length oc, by omega, rfl, by go_num, fun h => (by cases h), fun _ => HVO.out (by first | rfl | trivial), KC8.out, KR8.out, OA8.out, OO8.out, BB8.out, SS8.out, by show _ ≤ _; have := HCL.out; simp at this ⊢; rw [this]; simp, HIM.out, by show _ = stW _ _ _ _; rw [show ls.drop 1 = more from HMORE.out.symm]; exact HE.out⟩
            case measure => simp [intOf]; omega
      · have t1 : ((j : Int) == 0) = false := by rw [beq_eq_false_iff_ne]; omega
        have hjp : (0 : Int) < (j : Int) := by omega
        cases done with
        | true =>
          have HE : Hid (parseW s = (zCd, (j : Int) + 1, 6)) := HPS.out.trans st_done
          obtain ⟨y0, y1, y2, y3⟩ := cd_block4 KR6.out
          have yf : ∀ i, W6.frozen? ⟨w.heap.size, i, none⟩ = false := fun i => frozen_of_block KR6.out
          go_wp2_with fail
          refine bodyPost_ret_block3 (cs := #[.int .i64 0, .int .i64 0, .slice none 0 0, .slice none 0 0]) w.heap.size (0, 0) _ rfl rfl rfl rfl (four_set KR6.out _ _ _ _) Tryz.underlying25 rfl (by kernel_rfl) rfl ⟨zCd, zAt, (j : Int) + 1, 6, by first | rfl | (go_num), HE.out.symm, z_rd _ _, four_below BB6.out (Nat.le_refl _) _ _ _ _⟩
        | false =>
          have hgr : w.heap.size ≠ g6 := by omega
          obtain ⟨A7, hcut7, hA7⟩ := cut_off Kd.str infoStr rfl (some ⟨b8, o8, none⟩) (rn + 1) c6 1 1 rfl (by omega)
          have R7 : Hid (RdW (fun b => b < W6.heap.size) W6 A7 (c6 - 1) r) := by
            have := hA7 _ W6 _ (by simp [HRN.out]) R6.out
            exact (show Rd Kd.str (fun b => b < W6.heap.size) W6 A7 (c6 - 1) (r.map strOf) by simpa using this)
          have hs1 : rn + 1 - 1 = rn := by omega
          rw [hs1] at hcut7
          have hts := toList_strOf p
          clear hA7 hs1 CHD
          by_cases hq : p = wOut
          · subst hq
            have CR := Lib.hid (isa_registers _ A7 (c6 - 1) r W6 (HT.out.below BB6.out) R7.out ⟨by have := HWT.out.1; simp at this; omega, fun x hx => HWT.out.2 x (by simp [hx])⟩)
            rw [← HRN.out] at CR
            have HB1 := Lib.hid (fun h => HPS.out.trans (st_out_bad (c := C) (r := more) hj0 HPR.out h))
            have HB2 := Lib.hid (fun o h => HPS.out.trans (st_out (c := C) (r := more) (o := o) hj0 HPR.out h))
            go_wp2_with fail
            refine CR.out.mono ?_
            rintro e w7 ⟨v, rfl, o7, b7⟩
            obtain ⟨a7, c7, rfl⟩ := o7.form
            have KC7 := Lib.hid (block_below b7 KC6.out)
            have KR7 := Lib.hid (block_below b7 KR6.out)
            have OA7 := Lib.hid (OA6.out.below b7)
            have BB7 := Lib.hid (below_both BB6.out b7)
            have SS7 : Hid (Same (fun b => b < g6) W2 w7) := ⟨Nat.le_trans SS6.out.1 b7.size, fun b hb hlt => (b7.block b (by have := HGW.out; have := HS6.out; omega)).trans (SS6.out.2 b hb hlt)⟩
            obtain ⟨z0, z1, z2, z3⟩ := cd_block4 KC7.out
            have zf : ∀ i, w7.frozen? ⟨g6, i, none⟩ = false := fun i => frozen_of_block KC7.out
            clear b7 CR
            cases hh : regsW r with
            | none =>
              have HE : Hid (parseW s = (zCd, (j : Int) + 1, 6)) := HB1.out hh
              clear hh o7 HB1 HB2
              have KR8 := Lib.hid (block_far (p := ⟨g6, 3, none⟩) KR7.out (.slice a7 0 c7) hgr)
              have BB8 := Lib.hid (BB7.out.setCell (p := ⟨g6, 3, none⟩) (Nat.le_of_lt hrg) (.slice a7 0 c7))
              simp only [Option.getD_none, List.length_nil, Option.isSome_none]
              obtain ⟨y0, y1, y2, y3⟩ := cd_block4 KR8.out
              have yf : ∀ i, (w7.setCell ⟨g6, 3, none⟩ (.slice a7 0 c7)).frozen? ⟨w.heap.size, i, none⟩ = false := fun i => frozen_of_block KR8.out
              go_wp2_with fail
              refine bodyPost_ret_block3 (cs := #[.int .i64 0, .int .i64 0, .slice none 0 0, .slice none 0 0]) w.heap.size (0, 0) _ rfl rfl rfl rfl (four_set KR8.out _ _ _ _) Tryz.underlying25 rfl (by kernel_rfl) rfl ⟨zCd, zAt, (j : Int) + 1, 6, by first | rfl | (go_num), HE.out.symm, z_rd _ _, four_below BB8.out (Nat.le_refl _) _ _ _ _⟩
            | some out =>
              have HE := Lib.hid (HB2.out out hh)
              rw [hh] at o7
              have OO8 : Hid (Own (Kd.int .i64) 3 NoS w7 (g6 + 1) (.slice a7 out.length c7) out) := o7.mono (fun _ _ h => h) (by have := HGW.out; have := HS6.out; omega)
              clear hh o7 HB1 HB2
              simp only [Option.getD_some, Option.isSome_some]
              go_wp2_with fail
              go_roundw
              case rel => exact ⟨j + 1, true, ⟨C.width, C.regs, C.ins, out⟩, .slice ia C.ins.length ic, .slice a7 out.length c7, by omega, rfl, by go_num, fun _ => by omega, fun h => (by cases h), four_3 KC7.out _, block_far KR7.out _ hgr, own_set OA7.out _, own_set OO8.out _, BB7.out.setCell (p := ⟨g6, 3, none⟩) (Nat.le_of_lt hrg) _, same_setg SS7.out _, by show _ ≤ _; have := HCL.out; simp; omega, HIM.out, by show _ = stW _ _ _ _; rw [← HMORE.out]; exact HE.out⟩
              case measure => simp [intOf]; omega
          · have t5 : (p == [111, 117, 116]) = false := by rw [beq_eq_false_iff_ne]; exact hq
            have HB1 := Lib.hid (fun h => HPS.out.trans (st_ins_bad (c := C) (r := more) hj0 HPR.out hq h))
            have HB2 := Lib.hid (fun x h => HPS.out.trans (st_ins (c := C) (r := more) (x := x) hj0 HPR.out hq h))
            have BZ := Lib.hid (below_alloc (Below.refl W6.heap.size W6) (.cells #[.int .i64 0, .int .i64 0, .int .i64 0, .int .i64 0, .int .i64 0, .int .u64 0] 48))
            have KZ := Lib.hid (heap_alloc_new W6 (.cells #[.int .i64 0, .int .i64 0, .int .i64 0, .int .i64 0, .int .i64 0, .int .u64 0] 48))
            have BBZ := Lib.hid (below_alloc BB6.out (.cells #[.int .i64 0, .int .i64 0, .int .i64 0, .int .i64 0, .int .i64 0, .int .u64 0] 48))
            have CI := Lib.hid (isa_instruction _ (some ⟨b8, o8, none⟩) c6 p r (W6.alloc (.cells #[.int .i64 0, .int .i64 0, .int .i64 0, .int .i64 0, .int .i64 0, .int .u64 0] 48)) (HT.out.below BBZ.out) (HN.out.below BBZ.out) (HK.out.below BBZ.out) (R6.out.frame (Same.alloc _ W6 (.cells #[.int .i64 0, .int .i64 0, .int .i64 0, .int .i64 0, .int .i64 0, .int .u64 0] 48))) HWT.out)
            rw [← HRN.out] at CI
            go_wp2_with fail
            refine CI.out.mono ?_
            rintro e w7 ⟨v, rfl, ⟨x, rfl⟩, hx, b7⟩
            have BL7 := Lib.hid (below_both BZ.out b7)
            have KZ7 := Lib.hid (block_below b7 KZ.out)
            have BL9 := Lib.hid (six_below BL7.out (Nat.le_refl W6.heap.size) (.int .i64 x.op) (.int .i64 x.dst) (.int .i64 x.a) (.int .i64 x.b) (.int .i64 x.c) (.int .u64 x.imm))
            have KX9 := Lib.hid (six_set KZ7.out (.int .i64 x.op) (.int .i64 x.dst) (.int .i64 x.a) (.int .i64 x.b) (.int .i64 x.c) (.int .u64 x.imm))
            obtain ⟨x0, x1, x2, x3, x4, x5⟩ := in_block KZ7.out
            have xf : ∀ i, w7.frozen? ⟨W6.heap.size, i, none⟩ = false := fun i => frozen_of_block KZ7.out
            clear b7 CI BZ KZ
            go_upto_region 15 with fail
            obtain ⟨W9, hW9⟩ : ∃ W9, W9 = ((((((w7.setCell ⟨W6.heap.size, 0, none⟩ (.int .i64 x.op)).setCell ⟨W6.heap.size, 1, none⟩ (.int .i64 x.dst)).setCell ⟨W6.heap.size, 2, none⟩ (.int .i64 x.a)).setCell ⟨W6.heap.size, 3, none⟩ (.int .i64 x.b)).setCell ⟨W6.heap.size, 4, none⟩ (.int .i64 x.c)).setCell ⟨W6.heap.size, 5, none⟩ (.int .u64 x.imm)) := ⟨_, rfl⟩
            rw [← hW9] at KX9 BL9 ⊢
            clear hW9 x0 x1 x2 x3 x4 x5 xf
            have KC9 := Lib.hid (block_below BL9.out KC6.out)
            have KR9 := Lib.hid (block_below BL9.out KR6.out)
            have OA9 := Lib.hid (OA6.out.below BL9.out)
            have BB9 := Lib.hid (below_both BB6.out BL9.out)
            have SS9 : Hid (Same (fun b => b < g6) W2 W9) := ⟨Nat.le_trans SS6.out.1 BL9.out.size, fun b hb hlt => (BL9.out.block b (by have := HGW.out; have := HS6.out; omega)).trans (SS6.out.2 b hb hlt)⟩
            have HSZ9 : Hid (g6 + 1 ≤ W9.heap.size) := by show _ ≤ _; have := (Array.getElem?_eq_some_iff.1 KC9.out).1; omega
            obtain ⟨z0, z1, z2, z3⟩ := cd_block4 KC9.out
            obtain ⟨x0, x1, x2, x3, x4, x5⟩ := in_block KX9.out
            cases hh : insW (p :: r) with
            | none =>
              have HE : Hid (parseW s = (zCd, (j : Int) + 1, 6)) := HB1.out hh
              clear hh hx HB1 HB2
              go_wp2_with (first
                | (at_builtin; refine wpList_append_ev _ rfl _ _ 22 rfl _ _ rfl rfl _ (run_app1 W9 infoIn rfl _ OA9.out 48 (inCells x) x rfl (by have := HCL.out; omega) (by have := HCL.out; omega) (by have := HSZ9.out; omega)) ?_
                   rintro n2 w10 ⟨ow, g10, v10, a10, c10, rfl⟩
                   have KC10 := Lib.hid (block_grown g10 KC9.out (fun e => by have := (OA9.out.lt _ e.symm).1; omega))
                   have KR10 := Lib.hid (block_grown g10 KR9.out (fun e => by have := (OA9.out.lt _ e.symm).1; omega))
                   have BB10 := Lib.hid (BB9.out.grown g10 BB9.out.size (fun k hk => by have := (OA9.out.lt k hk).1; omega))
                   have S10 := Same.grown (S := fun b => b < g6) g10 (fun b hb e => by have := (OA9.out.lt b e.symm).1; omega)
                   have SS10 : Hid (Same (fun b => b < g6) W2 w10) := ⟨Nat.le_trans SS9.out.1 S10.1, fun b hb hlt => (S10.2 b hb (Nat.lt_of_lt_of_le hlt SS9.out.1)).trans (SS9.out.2 b hb hlt)⟩
                   have OA10 := Lib.hid ow
                   obtain ⟨q0, q1, q2, q3⟩ := cd_block4 KC10.out
                   have qf : ∀ i, w10.frozen? ⟨g6, i, none⟩ = false := fun i => frozen_of_block KC10.out
                   have KR11 := Lib.hid (block_far (p := ⟨g6, 2, none⟩) KR10.out (.slice a10 (C.ins.length + 1) c10) hgr)
                   have BB11 := Lib.hid (BB10.out.setCell (p := ⟨g6, 2, none⟩) (Nat.le_of_lt hrg) (.slice a10 (C.ins.length + 1) c10))
                   obtain ⟨y0, y1, y2, y3⟩ := cd_block4 KR11.out
                   have yf : ∀ i, (w10.setCell ⟨g6, 2, none⟩ (.slice a10 (C.ins.length + 1) c10)).frozen? ⟨w.heap.size, i, none⟩ = false := fun i => frozen_of_block KR11.out
                   clear ow g10 v10 S10)
                | fail)
              refine bodyPost_ret_block3 (cs := #[.int .i64 0, .int .i64 0, .slice none 0 0, .slice none 0 0]) w.heap.size (0, 0) _ rfl rfl rfl rfl (four_set KR11.out _ _ _ _) Tryz.underlying25 rfl (by kernel_rfl) rfl ⟨zCd, zAt, (j : Int) + 1, 6, by first | rfl | (go_num), HE.out.symm, z_rd _ _, four_below BB11.out (Nat.le_refl _) _ _ _ _⟩
            | some y =>
              obtain rfl := inVal_inj (hx y hh)
              have HE := Lib.hid (HB2.out x hh)
              have HIX : Hid (ImmOK (C.ins ++ [x])) := fun z hz => by
                rcases List.mem_append.1 hz with hz | hz
                · exact HIM.out z hz
                · rw [List.mem_singleton.1 hz]; exact (ins_text hh).2.2
              clear hh hx HB1 HB2
              go_wp2_with (first
                | (at_builtin; refine wpList_append_ev _ rfl _ _ 22 rfl _ _ rfl rfl _ (run_app1 W9 infoIn rfl _ OA9.out 48 (inCells x) x rfl (by have := HCL.out; omega) (by have := HCL.out; omega) (by have := HSZ9.out; omega)) ?_
                   rintro n2 w10 ⟨ow, g10, v10, a10, c10, rfl⟩
                   have KC10 := Lib.hid (block_grown g10 KC9.out (fun e => by have := (OA9.out.lt _ e.symm).1; omega))
                   have KR10 := Lib.hid (block_grown g10 KR9.out (fun e => by have := (OA9.out.lt _ e.symm).1; omega))
                   have BB10 := Lib.hid (BB9.out.grown g10 BB9.out.size (fun k hk => by have := (OA9.out.lt k hk).1; omega))
                   have S10 := Same.grown (S := fun b => b < g6) g10 (fun b hb e => by have := (OA9.out.lt b e.symm).1; omega)
                   have SS10 : Hid (Same (fun b => b < g6) W2 w10) := ⟨Nat.le_trans SS9.out.1 S10.1, fun b hb hlt => (S10.2 b hb (Nat.lt_of_lt_of_le hlt SS9.out.1)).trans (SS9.out.2 b hb hlt)⟩
                   have OA10 := Lib.hid ow
                   obtain ⟨q0, q1, q2, q3⟩ := cd_block4 KC10.out
                   have qf : ∀ i, w10.frozen? ⟨g6, i, none⟩ = false := fun i => frozen_of_block KC10.out
                   have KR11 := Lib.hid (block_far (p := ⟨g6, 2, none⟩) KR10.out (.slice a10 (C.ins.length + 1) c10) hgr)
                   have BB11 := Lib.hid (BB10.out.setCell (p := ⟨g6, 2, none⟩) (Nat.le_of_lt hrg) (.slice a10 (C.ins.length + 1) c10))
                   obtain ⟨y0, y1, y2, y3⟩ := cd_block4 KR11.out
                   have yf : ∀ i, (w10.setCell ⟨g6, 2, none⟩ (.slice a10 (C.ins.length + 1) c10)).frozen? ⟨w.heap.size, i, none⟩ = false := fun i => frozen_of_block KR11.out
                   clear ow g10 v10 S10)
                | fail)
              have HO10 : Hid (Own (Kd.int .i64) 3 NoS (w10.setCell ⟨g6, 2, none⟩ (.slice a10 (C.ins.length + 1) c10)) (g6 + 1) (.slice oa C.out.length oc) C.out) := by
                have hvo := HVO.out (by first | rfl | trivial)
                have hco : C.out = [] := by injection hvo with e1 e2 e3; exact List.eq_nil_of_length_eq_zero e2
                show Own _ _ _ _ _ _ _
                rw [hvo, hco]
                exact Own.nil _ _ _ _ _
              go_roundw
              case rel => exact ⟨j + 1, false, ⟨C.width, C.regs, C.ins ++ [x], C.out⟩, .slice a10 (C.ins.length + 1) c10, .slice oa C.out.length oc, by omega, rfl, by go_num, fun h => (by cases h), fun _ => HVO.out (by first | rfl | trivial), four_2 KC10.out _, KR11.out, own_set OA10.out _, HO10.out, BB11.out, same_setg SS10.out _, by show _ ≤ _; have := HCL.out; simp; omega, HIX.out, by show _ = stW _ _ _ _; rw [← HMORE.out]; exact HE.out⟩
              case measure => simp [intOf]; omega
end Go.Proofs.Sat
/- Parse of the reference. -/
namespace Go.Proofs.Sat
open Go Go.RowKit
theorem st_first {ls : List (List UInt8)} {l : List UInt8} {r : List (List UInt8)} {a b : Int} (h0 : ls = l :: r) (h : headW l = some (a, b)) : restW ls = stW false 1 ⟨a, b, [], []⟩ (ls.drop 1) := by
  rw [h0, restW, h]
  rfl
set_option maxRecDepth 20000 in
set_option maxHeartbeats 4000000 in
theorem ref48_Parse (s : List UInt8) (w : World) (hl : s.length ≤ 1099511627776) : Calls Tryz.prog 15 #[.string (strOf s)] w (ParP s w) := by
  have B0 := Lib.hid (below_alloc (Below.refl w.heap.size w) (.cells #[.int .i64 0, .int .i64 0, .slice none 0 0, .slice none 0 0] 25))
  have KR0 := Lib.hid (heap_alloc_new w (.cells #[.int .i64 0, .int .i64 0, .slice none 0 0, .slice none 0 0] 25))
  have hsz := strOf_size s
  obtain ⟨m, hm⟩ : ∃ m, m = s.length := ⟨_, rfl⟩
  have HM := Lib.hid hm
  rw [← hm] at hsz hl
  clear hm
  by_cases hlong : 65536 < m
  · have HE : Hid (parseW s = (zCd, 0, 7)) := parseW_long (by rw [← HM.out]; exact hlong)
    have t0 : (65536 : Int) < (m : Int) := by omega
    obtain ⟨y0, y1, y2, y3⟩ := cd_block4 KR0.out
    have yf : ∀ i, (w.alloc (.cells #[.int .i64 0, .int .i64 0, .slice none 0 0, .slice none 0 0] 25)).frozen? ⟨w.heap.size, i, none⟩ = false := fun i => frozen_of_block KR0.out
    go_enter Tryz.func15, Tryz.ntmps15
    go_wp2_with fail
    refine bodyPost_ret_block3 (cs := #[.int .i64 0, .int .i64 0, .slice none 0 0, .slice none 0 0]) w.heap.size (0, 0) _ rfl rfl rfl rfl KR0.out Tryz.underlying25 rfl (by kernel_rfl) rfl ⟨zCd, zAt, 0, 7, by rfl, HE.out.symm, z_rd _ _, B0.out⟩
  have t0 : ¬ ((65536 : Int) < (m : Int)) := by omega
  have HP : Hid (parseW s = restW (linesW s)) := parseW_rest (by rw [← HM.out]; exact hlong)
  have CSP := Lib.hid (ref48_Split' s 10 (w.alloc (.cells #[.int .i64 0, .int .i64 0, .slice none 0 0, .slice none 0 0] 25)) (by rw [← HM.out]; omega))
  have HW := Lib.hid (spl_words (s := 10) (l := s) (by rw [← HM.out]; omega))
  have HSL : Hid ((spl 10 s).length ≤ 65537) := by show _ ≤ _; have := spl_len 10 s; have := HM.out; omega
  have HPL : Hid (∀ p ∈ spl 10 s, p.length ≤ 65536) := fun p hp => by have := part_le hp; have := HM.out; omega
  obtain ⟨n, hn⟩ : ∃ n, (spl 10 s).length = n + 1 := ⟨(spl 10 s).length - 1, by have := List.length_pos_iff.2 (spl_ne 10 s); omega⟩
  have HY := Lib.hid (fun (h' : n < (spl 10 s).length) h => linesW_yes (s := s) hn h' h)
  have HNO := Lib.hid (fun (h' : n < (spl 10 s).length) h => linesW_no (s := s) hn h' h)
  have HNN := Lib.hid hn
  have HLN0 : Hid (∀ p ∈ linesW s, p.length ≤ 65536) := fun p hp => HPL.out p (by
    unfold linesW at hp
    split at hp
    · rw [List.dropLast_eq_take] at hp; exact List.mem_of_mem_take hp
    · exact hp)
  have hn65 : n ≤ 65536 := by have := HSL.out; omega
  rw [hn] at CSP
  clear hn hlong
  generalize linesW s = ls at *
  generalize spl 10 s = ws at *
  go_enter Tryz.func15, Tryz.ntmps15
  go_wp2_with fail
  refine CSP.out.mono ?_
  rintro e w1 ⟨a, c, rfl, r1, b1⟩
  have KR1 := Lib.hid (block_below b1 KR0.out)
  have B1 := Lib.hid (below_both B0.out b1)
  have hnl : n < ws.length := by rw [HNN.out]; omega
  have hc1 : n + 1 ≤ c := by have := r1.1; rw [List.length_map, HNN.out] at this; exact this
  obtain ⟨b, o, rfl, d0⟩ := RdW.at (k := n) r1 hnl
  have R1 := Lib.hid (Rd.lt r1)
  obtain ⟨A1, hcut1, hA1⟩ := cut_to Kd.str infoStr rfl (some ⟨b, o, none⟩) (n + 1) c n (n : Int) rfl (by omega)
  have hts := toList_strOf ws[n]
  have HY2 := Lib.hid (fun h => HY.out hnl h)
  have HN2 := Lib.hid (fun h => HNO.out hnl h)
  clear b1 r1 B0 KR0 CSP HY HNO
  generalize ws[n] = last at *
  go_upto_if 29 with fail
  go_cut [5] (fun s5 wx => ∃ (A : Option Addr) (k c' : Nat), s5 = .slice A k c' ∧ k ≤ 65537 ∧ Hid (k = ls.length) ∧ Hid (RdW (fun b => b < w1.heap.size) w1 A c' ls) ∧ wx = w1)
  case first =>
    by_cases hq : last = []
    · have HL : Hid (ls = ws.take n) := HY2.out hq
      have RL := Lib.hid (hA1 _ w1 _ (by rw [List.length_map, HNN.out]; omega) R1.out)
      clear hA1 HY2 HN2
      subst hq
      go_wp2_with fail
      go_meet
      case rel => exact ⟨A1, n, c, by first | rfl | go_num, by omega, by show _ = _; rw [HL.out, List.length_take, HNN.out]; omega, by rw [HL.out]; show Rd Kd.str _ _ _ _ _; rw [List.map_take]; exact RL.out, rfl⟩
    · have HL : Hid (ls = ws) := HN2.out hq
      clear hA1 HY2 HN2
      obtain ⟨z, zs, rfl⟩ : ∃ z zs, last = z :: zs := by
        cases last with
        | nil => exact absurd rfl hq
        | cons z zs => exact ⟨z, zs, rfl⟩
      clear hq
      go_wp2_with fail
      go_meet
      case rel => exact ⟨some ⟨b, o, none⟩, n + 1, c, by first | rfl | go_num, by omega, by show _ = _; rw [HL.out, HNN.out], by rw [HL.out]; exact R1.out, rfl⟩
  case rest =>
    obtain ⟨A2, k, c2, rfl, hk, HKL, R2, hwx⟩ := hcut
    subst hwx
    obtain ⟨W1, hW1⟩ : ∃ W1, W1 = wc := ⟨_, rfl⟩
    subst hW1
    have HLN : Hid (∀ p ∈ ls, p.length ≤ 65536) := HLN0.out
    cases hls : ls with
    | nil =>
      have hk0 : k = 0 := by rw [HKL.out, hls]; rfl
      subst hk0
      have HE : Hid (parseW s = (zCd, 1, 6)) := by show _ = _; rw [HP.out, hls]; rfl
      obtain ⟨y0, y1, y2, y3⟩ := cd_block4 KR1.out
      have yf : ∀ i, W1.frozen? ⟨w.heap.size, i, none⟩ = false := fun i => frozen_of_block KR1.out
      go_wp2_with fail
      refine bodyPost_ret_block3 (cs := #[.int .i64 0, .int .i64 0, .slice none 0 0, .slice none 0 0]) w.heap.size (0, 0) _ rfl rfl rfl rfl (four_set KR1.out _ _ _ _) Tryz.underlying25 rfl (by kernel_rfl) rfl ⟨zCd, zAt, 1, 6, by first | rfl | (go_num), HE.out.symm, z_rd _ _, four_below B1.out (Nat.le_refl _) _ _ _ _⟩
    | cons line more =>
      have hk1 : 0 < k := by rw [HKL.out, hls]; simp
      obtain ⟨b9, o9, hA2, d9⟩ := RdW.at (k := 0) R2.out (by rw [hls]; simp)
      subst hA2
      have hll := HLN.out line (by rw [hls]; simp)
      simp only [hls, List.getElem_cons_zero, Nat.add_zero] at d9
      have CHD := Lib.hid (ref48_head line W1 (by omega))
      have HB1 : Hid (headW line = none → parseW s = (zCd, 1, 6)) := fun h => by rw [HP.out, hls, restW, h]
      have HB2 : Hid (∀ a b, headW line = some (a, b) → parseW s = stW false 1 ⟨a, b, [], []⟩ (ls.drop 1)) := fun a b h => HP.out.trans (st_first hls h)
      have hki : ((k : Int) == 0) = false := by rw [beq_eq_false_iff_ne]; omega
      clear hls hll
      go_wp2_with fail
      refine CHD.out.mono ?_
      rintro e w2 ⟨nw, nr, rfl, hnm, b2⟩
      have KR2 := Lib.hid (block_below b2 KR1.out)
      have B2 := Lib.hid (below_both B1.out b2)
      cases hh : headW line with
      | none =>
        have HE : Hid (parseW s = (zCd, 1, 6)) := HB1.out hh
        clear hh hnm b2 HB1 HB2 d9
        simp only [Option.isSome_none]
        obtain ⟨y0, y1, y2, y3⟩ := cd_block4 KR2.out
        have yf : ∀ i, w2.frozen? ⟨w.heap.size, i, none⟩ = false := fun i => frozen_of_block KR2.out
        go_wp2_with fail
        refine bodyPost_ret_block3 (cs := #[.int .i64 0, .int .i64 0, .slice none 0 0, .slice none 0 0]) w.heap.size (0, 0) _ rfl rfl rfl rfl (four_set KR2.out _ _ _ _) Tryz.underlying25 rfl (by kernel_rfl) rfl ⟨zCd, zAt, 1, 6, by first | rfl | (go_num), HE.out.symm, z_rd _ _, four_below B2.out (Nat.le_refl _) _ _ _ _⟩
      | some ab =>
        obtain ⟨a0, b0⟩ := ab
        have HE := Lib.hid (HB2.out a0 b0 hh)
        have h1 : nw = a0 ∧ nr = b0 := by have := hnm _ hh; cases this; exact ⟨rfl, rfl⟩
        obtain ⟨rfl, rfl⟩ := h1
        have R3 := Lib.hid (R2.out.frame (Same.below b2))
        have HS12 := Lib.hid b2.size
        clear hnm hh b2 HB1 HB2 d9 CHD
        simp only [Option.isSome_some]
        obtain ⟨g9, hg9⟩ : ∃ g9, g9 = w2.heap.size := ⟨_, rfl⟩
        have KC3 := Lib.hid (heap_alloc_new w2 (.cells #[.int .i64 nw, .int .i64 nr, .slice none 0 0, .slice none 0 0] 25))
        have KR3 := Lib.hid (block_alloc KR2.out (.cells #[.int .i64 nw, .int .i64 nr, .slice none 0 0, .slice none 0 0] 25))
        have B3 := Lib.hid (below_alloc B2.out (.cells #[.int .i64 nw, .int .i64 nr, .slice none 0 0, .slice none 0 0] 25))
        have hrg : w.heap.size < w2.heap.size := (Array.getElem?_eq_some_iff.1 KR2.out).1
        have R4 : Hid (RdW (fun b => b < w2.heap.size) (w2.alloc (.cells #[.int .i64 nw, .int .i64 nr, .slice none 0 0, .slice none 0 0] 25)) (some ⟨b9, o9, none⟩) c2 ls) := ((R3.out.mono (fun b _ hb => Nat.lt_of_lt_of_le hb (Nat.le_trans (by first | exact Nat.le_refl _ | exact (by have := HS12.out; omega)) HS12.out))).frame (Same.alloc _ w2 (.cells #[.int .i64 nw, .int .i64 nr, .slice none 0 0, .slice none 0 0] 25)))
        have HG3 : Hid ((w2.alloc (.cells #[.int .i64 nw, .int .i64 nr, .slice none 0 0, .slice none 0 0] 25)).heap.size = w2.heap.size + 1) := by show _ = _; simp
        go_upto_region 12 with fail
        rw [← hg9] at KC3 hrg R4 HG3 ⊢
        obtain ⟨W3, hW3⟩ : ∃ W3, W3 = w2.alloc (.cells #[.int .i64 nw, .int .i64 nr, .slice none 0 0, .slice none 0 0] 25) := ⟨_, rfl⟩
        rw [← hW3] at KC3 KR3 B3 R4 HG3 ⊢
        have hgr : w.heap.size ≠ g9 := by omega
        clear hW3 hg9 KR2 B2 R3 KR1 B1 R2 R1
        go_wp2_with fail
        go_loopw [10] (fun s10 wr => ∃ (j : Nat) (acc : List In) (va : Value), j ≤ k ∧ 1 ≤ j ∧ s10 = .int .i64 j ∧ Hid (wr.heap[g9]? = some (.cells #[.int .i64 nw, .int .i64 nr, va, .slice none 0 0] 25 (0, 0))) ∧ Hid (wr.heap[w.heap.size]? = some (.cells #[.int .i64 0, .int .i64 0, .slice none 0 0, .slice none 0 0] 25 (0, 0))) ∧ Hid (Own kIn 48 NoS wr (g9 + 1) va acc) ∧ Hid (Below w.heap.size w wr) ∧ Hid (Same (fun b => b < g9) W3 wr) ∧ Hid (acc.length ≤ j) ∧ Hid (ImmOK acc) ∧ Hid (parseW s = stW false j ⟨nw, nr, acc, []⟩ (ls.drop j))) (fun i _ => k - (intOf i).toNat)
        case atStart => exact ⟨1, [], .slice none 0 0, by omega, by omega, by go_num, KC3.out, KR3.out, Own.nil _ _ _ _ _, B3.out, ⟨Nat.le_refl _, fun _ _ _ => rfl⟩, by show _ ≤ _; simp, fun x hx => (by cases hx), HE.out⟩
        case round =>
          obtain ⟨j, acc, va, hj, hj1, rfl, KC, KR, OA, BB, SS, HCL, HIM, HPS⟩ := hrel
          obtain ⟨W, hW⟩ : ∃ W, W = wr := ⟨_, rfl⟩
          subst hW
          obtain ⟨ia, ic, rfl⟩ := OA.out.form
          have hj0 : j ≠ 0 := by omega
          by_cases hlt : j < k
          case neg =>
            have hjk : j = k := by omega
            subst hjk
            have hji : ¬ ((j : Int) < (j : Int)) := by omega
            have HNIL : Hid (ls.drop j = []) := List.drop_eq_nil_of_le (by rw [← HKL.out]; omega)
            rw [HNIL.out] at HPS
            have HE : Hid (parseW s = (zCd, (j : Int) + 1, 6)) := HPS.out.trans (st_end (by omega))
            obtain ⟨y0, y1, y2, y3⟩ := cd_block4 KR.out
            have yf : ∀ i, W.frozen? ⟨w.heap.size, i, none⟩ = false := fun i => frozen_of_block KR.out
            go_wp2_with fail
            refine bodyPost_ret_block3 (cs := #[.int .i64 0, .int .i64 0, .slice none 0 0, .slice none 0 0]) w.heap.size (0, 0) _ rfl rfl rfl rfl (four_set KR.out _ _ _ _) Tryz.underlying25 rfl (by kernel_rfl) rfl ⟨zCd, zAt, (j : Int) + 1, 6, by first | rfl | (go_num), HE.out.symm, z_rd _ _, four_below BB.out (Nat.le_refl _) _ _ _ _⟩
          have hji : (j : Int) < (k : Int) := by omega
          have hjn : ((j : Int) == (k : Int)) = false := by rw [beq_eq_false_iff_ne]; omega
          have hjl : j < ls.length := by rw [← HKL.out]; exact hlt
          obtain ⟨b8, o8, e8, d9⟩ := RdW.at (k := j) (R4.out.frame SS.out) hjl
          cases e8
          have HDR : Hid (ls.drop j = ls[j]'hjl :: ls.drop (j + 1)) := List.drop_eq_getElem_cons hjl
          have HLN2 : Hid (ls.length = ls.length) := rfl
          have hln := HLN.out _ (List.getElem_mem hjl)
          have HAT : Hid (∀ W', Same (fun b => b < g9) W3 W' → W'.cell? ⟨b9, o9 + j, none⟩ = some (.string (strOf (ls[j]'hjl)))) := fun W' h => by
            obtain ⟨_, _, e, d⟩ := RdW.at (k := j) (R4.out.frame h) hjl
            cases e
            exact d
          generalize ls[j]'hjl = text at *
          rw [HDR.out] at HPS
          obtain ⟨more, hmore⟩ : ∃ more, more = ls.drop (j + 1) := ⟨_, rfl⟩
          rw [← hmore] at HPS
          have HMN : Hid (more = [] ↔ j + 1 = k) := by
            show _ ↔ _
            rw [hmore, List.drop_eq_nil_iff, ← HKL.out]
            omega
          have HMORE := Lib.hid hmore
          clear hmore HLN2
          obtain ⟨p, r, hpr⟩ : ∃ p r, spl 32 text = p :: r := by
            cases h : spl 32 text with
            | nil => exact absurd h (spl_ne _ _)
            | cons p r => exact ⟨p, r, rfl⟩
          have HWT := Lib.hid (spl_words (s := 32) (l := text) (by omega))
          obtain ⟨rn, hrn⟩ : ∃ rn, rn = r.length := ⟨_, rfl⟩
          have HRN := Lib.hid hrn
          have CSP : Hid (∀ W, Calls Tryz.prog 39 #[.string (strOf text), .int .u8 32] W fun e w' => ∃ a c, e = .returned (.slice a (rn + 1) c) ∧ RdW (fun b => W.heap.size ≤ b) w' a c (p :: r) ∧ Below W.heap.size W w') := fun W => by
            have := ref48_Split' text 32 W (by omega)
            rw [hpr] at this
            rw [hrn]
            exact this
          have HPR := Lib.hid hpr
          rw [hpr] at HWT
          have CI := Lib.hid (fun W => ref48_instruction text W (by omega))
          have CI2 : Hid (∀ W, Calls Tryz.prog 41 #[.string (strOf text)] W fun e w' => ∃ x : In, e = .returned (.tuple #[inVal x, .bool (insW (p :: r)).isSome]) ∧ (∀ y, insW (p :: r) = some y → x = y) ∧ Below W.heap.size W w') := fun W => (CI.out W).mono fun e w' ⟨v, he, ⟨x, hv⟩, hx, hb⟩ => by
            rw [hpr] at he hx
            subst hv
            exact ⟨x, he, fun y hy => inVal_inj (hx y hy), hb⟩
          clear hpr hrn hln hjl HDR hlt CI
          go_wp2_with fail
          refine (CSP.out W).mono ?_
          rintro e w6 ⟨a6, c6, rfl, r6, b6⟩
          obtain ⟨W6, hW6⟩ : ∃ W6, W6 = w6 := ⟨_, rfl⟩
          subst hW6
          have KC6 := Lib.hid (block_below b6 KC.out)
          have KR6 := Lib.hid (block_below b6 KR.out)
          have OA6 := Lib.hid (OA.out.below b6)
          have BB6 := Lib.hid (below_both BB.out b6)
          have HGW : Hid (g9 < W.heap.size) := (Array.getElem?_eq_some_iff.1 KC.out).1
          have SS6 : Hid (Same (fun b => b < g9) W3 W6) := ⟨Nat.le_trans SS.out.1 b6.size, fun b hb hlt => (b6.block b (by have := HGW.out; omega)).trans (SS.out.2 b hb hlt)⟩
          obtain ⟨b8, o8, rfl, d8⟩ := RdW.at (k := 0) r6 (by simp)
          simp only [List.getElem_cons_zero, Nat.add_zero] at d8
          have HS6 := Lib.hid b6.size
          have hts := toList_strOf p
          have dt := HAT.out W6 SS6.out
          clear b6 r6 d9 KC KR OA
          by_cases hq : p = wOut
          · subst hq
            have HB1 := Lib.hid (fun h => HPS.out.trans (st_out_bad (c := ⟨nw, nr, acc, []⟩) (r := more) hj0 HPR.out h))
            have HB2 := Lib.hid (fun o h => HPS.out.trans (st_out (c := ⟨nw, nr, acc, []⟩) (r := more) (o := o) hj0 HPR.out h))
            go_wp2_with fail
            refine (CSP.out W6).mono ?_
            rintro e w7 ⟨a7, c7, rfl, r7, b7⟩
            have hc7 : rn + 1 ≤ c7 := by have := r7.1; rw [List.length_map, List.length_cons, ← HRN.out] at this; exact this
            obtain ⟨A8, hcut8, hA8⟩ := cut_off Kd.str infoStr rfl a7 (rn + 1) c7 1 1 rfl (by omega)
            have R8 : Hid (RdW (fun b => W6.heap.size ≤ b) w7 A8 (c7 - 1) r) := by
              have := hA8 _ w7 _ (by simp [HRN.out]) r7
              exact (show Rd Kd.str (fun b => W6.heap.size ≤ b) w7 A8 (c7 - 1) (r.map strOf) by simpa using this)
            have hs1 : rn + 1 - 1 = rn := by omega
            rw [hs1] at hcut8
            have CR := Lib.hid (ref48_registers _ A8 (c7 - 1) r w7 R8.out ⟨by have := HWT.out.1; simp at this; omega, fun x hx => HWT.out.2 x (by simp [hx])⟩)
            rw [← HRN.out] at CR
            have BL7 := Lib.hid b7
            clear hA8 hs1 b7 r7 CSP CI2 dt d8
            go_wp2_with fail
            refine CR.out.mono ?_
            rintro e w8 ⟨v, rfl, o8, b8⟩
            obtain ⟨a8, c8, rfl⟩ := o8.form
            have BL8 := Lib.hid (below_both BL7.out b8)
            have KC8 := Lib.hid (block_below BL8.out KC6.out)
            have KR8 := Lib.hid (block_below BL8.out KR6.out)
            have OA8 := Lib.hid (OA6.out.below BL8.out)
            have BB8 := Lib.hid (below_both BB6.out BL8.out)
            have HS8 := Lib.hid BL7.out.size
            obtain ⟨z0, z1, z2, z3⟩ := cd_block4 KC8.out
            have zf : ∀ i, w8.frozen? ⟨g9, i, none⟩ = false := fun i => frozen_of_block KC8.out
            clear b8 CR
            cases hh : regsW r with
            | none =>
              have HE : Hid (parseW s = (zCd, (j : Int) + 1, 6)) := HB1.out hh
              clear hh o8 HB1 HB2
              simp only [Option.getD_none, List.length_nil, Option.isSome_none]
              obtain ⟨y0, y1, y2, y3⟩ := cd_block4 KR8.out
              have yf : ∀ i, w8.frozen? ⟨w.heap.size, i, none⟩ = false := fun i => frozen_of_block KR8.out
              go_wp2_with fail
              refine bodyPost_ret_block3 (cs := #[.int .i64 0, .int .i64 0, .slice none 0 0, .slice none 0 0]) w.heap.size (0, 0) _ rfl rfl rfl rfl (four_set KR8.out _ _ _ _) Tryz.underlying25 rfl (by kernel_rfl) rfl ⟨zCd, zAt, (j : Int) + 1, 6, by first | rfl | (go_num), HE.out.symm, z_rd _ _, four_below BB8.out (Nat.le_refl _) _ _ _ _⟩
            | some out =>
              have HE := Lib.hid (HB2.out out hh)
              rw [hh] at o8
              have OO8 : Hid (Own (Kd.int .i64) 3 NoS w8 (g9 + 1) (.slice a8 out.length c8) out) := o8.mono (fun _ _ h => h) (by have := HGW.out; have := HS6.out; have := HS8.out; omega)
              clear hh o8 HB1 HB2
              simp only [Option.getD_some, Option.isSome_some]
              have KC9 := Lib.hid (four_3 KC8.out (.slice a8 out.length c8))
              have KR9 := Lib.hid (block_far (p := ⟨g9, 3, none⟩) KR8.out (.slice a8 out.length c8) hgr)
              have OA9 := Lib.hid (own_set (i := 3) OA8.out (.slice a8 out.length c8))
              have OO9 := Lib.hid (own_set (i := 3) OO8.out (.slice a8 out.length c8))
              have BB9 := Lib.hid (BB8.out.setCell (p := ⟨g9, 3, none⟩) (Nat.le_of_lt hrg) (.slice a8 out.length c8))
              by_cases hm : more = []
              case neg =>
                have hjk : ¬ ((j : Int) + 1 < (k : Int)) → False := fun h => hm (HMN.out.2 (by omega))
                have hjk' : (j : Int) + 1 < (k : Int) := by
                  by_cases h : (j : Int) + 1 < (k : Int)
                  · exact h
                  · exact (hjk h).elim
                have HE2 : Hid (parseW s = (zCd, (j : Int) + 2, 6)) := by
                  show _ = _
                  rw [HE.out]
                  unfold stW
                  rw [if_pos rfl, if_neg hm, show ((j + 1 : Nat) : Int) + 1 = (j : Int) + 2 by omega]
                clear hjk
                obtain ⟨y0, y1, y2, y3⟩ := cd_block4 KR9.out
                have yf : ∀ i, (w8.setCell ⟨g9, 3, none⟩ (.slice a8 out.length c8)).frozen? ⟨w.heap.size, i, none⟩ = false := fun i => frozen_of_block KR9.out
                go_wp2_with fail
                refine bodyPost_ret_block3 (cs := #[.int .i64 0, .int .i64 0, .slice none 0 0, .slice none 0 0]) w.heap.size (0, 0) _ rfl rfl rfl rfl (four_set KR9.out _ _ _ _) Tryz.underlying25 rfl (by kernel_rfl) rfl ⟨zCd, zAt, (j : Int) + 2, 6, by first | rfl | (go_num), HE2.out.symm, z_rd _ _, four_below BB9.out (Nat.le_refl _) _ _ _ _⟩
              have hjk : ¬ ((j : Int) + 1 < (k : Int)) := by have := HMN.out.1 hm; omega
              have HEE : Hid (parseW s = if cdErr ⟨nw, nr, acc, out⟩ = 0 then (⟨nw, nr, acc, out⟩, 0, 0) else (zCd, cdIx ⟨nw, nr, acc, out⟩ + 2, cdErr ⟨nw, nr, acc, out⟩)) := by
                show _ = _
                rw [HE.out]
                unfold stW endW
                rw [if_pos rfl, if_pos hm]
              have RC : Hid (CdRd (fun b => g9 + 1 ≤ b) (w8.setCell ⟨g9, 3, none⟩ (.slice a8 out.length c8)) ⟨nw, nr, acc, out⟩ ⟨ia, ic, a8, c8⟩) := ⟨(Own.rd' OA9.out).mono (fun b _ h => h.elim (fun h => h.elim) id), (Own.rd' OO9.out).mono (fun b _ h => h.elim (fun h => h.elim) id)⟩
              have CK := Lib.hid (ref48_Check _ ⟨nw, nr, acc, out⟩ ⟨ia, ic, a8, c8⟩ _ RC.out HIM.out)
              have hci := cdIx_bounds ⟨nw, nr, acc, out⟩
              generalize cdIx ⟨nw, nr, acc, out⟩ = ci at *
              generalize cdErr ⟨nw, nr, acc, out⟩ = ce at *
              obtain ⟨q0, q1, q2, q3⟩ := cd_block4 KC9.out
              go_wp2_with fail
              refine CK.out.mono ?_
              rintro e w9 ⟨rfl, b9⟩
              have KC7 := Lib.hid (block_below b9 KC9.out)
              have KR7 := Lib.hid (block_below b9 KR9.out)
              have BB7 := Lib.hid (below_both BB9.out b9)
              have RC7 : Hid (CdRd (fun b => g9 + 1 ≤ b) w9 ⟨nw, nr, acc, out⟩ ⟨ia, ic, a8, c8⟩) := ⟨RC.out.ins.frame (Same.below b9), RC.out.out.frame (Same.below b9)⟩
              by_cases hce : ce = 0
              · rw [if_pos hce] at HEE
                have t1 : (ce != 0) = false := by rw [bne_eq_false_iff_eq]; exact hce
                clear hce b9
                obtain ⟨q0, q1, q2, q3⟩ := cd_block4 KC7.out
                obtain ⟨y0, y1, y2, y3⟩ := cd_block4 KR7.out
                have yf : ∀ i, w9.frozen? ⟨w.heap.size, i, none⟩ = false := fun i => frozen_of_block KR7.out
                go_wp2_with fail
                refine bodyPost_ret_block3 (cs := #[.int .i64 nw, .int .i64 nr, .slice ia acc.length ic, .slice a8 out.length c8]) w.heap.size (0, 0) _ rfl rfl rfl rfl (four_set KR7.out _ _ _ _) Tryz.underlying25 rfl (by kernel_rfl) rfl ⟨⟨nw, nr, acc, out⟩, ⟨ia, ic, a8, c8⟩, 0, 0, by first | rfl | (go_num), HEE.out.symm, CdRd.mono (fun b _ hb => by have : g9 + 1 ≤ b := hb; show w.heap.size ≤ b; omega) (RC7.out.frame (four_same (fun b hb => by have : g9 + 1 ≤ b := hb; omega) _ _ _ _)), four_below BB7.out (Nat.le_refl _) _ _ _ _⟩
              · rw [if_neg hce] at HEE
                have t1 : (ce != 0) = true := by rw [bne_iff_ne]; exact hce
                have hmx : max 1 (ci + 2) = ci + 2 := by omega
                clear hce b9
                obtain ⟨y0, y1, y2, y3⟩ := cd_block4 KR7.out
                have yf : ∀ i, w9.frozen? ⟨w.heap.size, i, none⟩ = false := fun i => frozen_of_block KR7.out
                go_wp2_with fail
                refine bodyPost_ret_block3 (cs := #[.int .i64 0, .int .i64 0, .slice none 0 0, .slice none 0 0]) w.heap.size (0, 0) _ rfl rfl rfl rfl (four_set KR7.out _ _ _ _) Tryz.underlying25 rfl (by kernel_rfl) rfl ⟨zCd, zAt, ci + 2, ce, by first | rfl | (go_num), HEE.out.symm, z_rd _ _, four_below BB7.out (Nat.le_refl _) _ _ _ _⟩
          · have t5 : (p == [111, 117, 116]) = false := by rw [beq_eq_false_iff_ne]; exact hq
            have HB1 := Lib.hid (fun h => HPS.out.trans (st_ins_bad (c := ⟨nw, nr, acc, []⟩) (r := more) hj0 HPR.out hq h))
            have HB2 := Lib.hid (fun x h => HPS.out.trans (st_ins (c := ⟨nw, nr, acc, []⟩) (r := more) (x := x) hj0 HPR.out hq h))
            go_wp2_with fail
            refine (CI2.out W6).mono ?_
            rintro e w7 ⟨x, rfl, hx, b7⟩
            have BL7 := Lib.hid b7
            have BL9 := Lib.hid (below_alloc BL7.out (.cells #[.int .i64 x.op, .int .i64 x.dst, .int .i64 x.a, .int .i64 x.b, .int .i64 x.c, .int .u64 x.imm] 48))
            have KX9 := Lib.hid (heap_alloc_new w7 (.cells #[.int .i64 x.op, .int .i64 x.dst, .int .i64 x.a, .int .i64 x.b, .int .i64 x.c, .int .u64 x.imm] 48))
            obtain ⟨W9, hW9⟩ : ∃ W9, W9 = w7.alloc (.cells #[.int .i64 x.op, .int .i64 x.dst, .int .i64 x.a, .int .i64 x.b, .int .i64 x.c, .int .u64 x.imm] 48) := ⟨_, rfl⟩
            clear b7 CI2
            cases hh : insW (p :: r) with
            | none =>
              have HE : Hid (parseW s = (zCd, (j : Int) + 1, 6)) := HB1.out hh
              have KR9 := Lib.hid (block_below BL9.out KR6.out)
              have BB9 := Lib.hid (below_both BB6.out BL9.out)
              clear hh hx HB1 HB2 hW9 W9
              simp only [Option.isSome_none]
              obtain ⟨y0, y1, y2, y3⟩ := cd_block4 KR9.out
              have yf : ∀ i, (w7.alloc (.cells #[.int .i64 x.op, .int .i64 x.dst, .int .i64 x.a, .int .i64 x.b, .int .i64 x.c, .int .u64 x.imm] 48)).frozen? ⟨w.heap.size, i, none⟩ = false := fun i => frozen_of_block KR9.out
              go_wp2_with fail
              refine bodyPost_ret_block3 (cs := #[.int .i64 0, .int .i64 0, .slice none 0 0, .slice none 0 0]) w.heap.size (0, 0) _ rfl rfl rfl rfl (four_set KR9.out _ _ _ _) Tryz.underlying25 rfl (by kernel_rfl) rfl ⟨zCd, zAt, (j : Int) + 1, 6, by first | rfl | (go_num), HE.out.symm, z_rd _ _, four_below BB9.out (Nat.le_refl _) _ _ _ _⟩
            | some y =>
              obtain rfl := hx y hh
              have HE := Lib.hid (HB2.out x hh)
              have HIX : Hid (ImmOK (acc ++ [x])) := fun z hz => by
                rcases List.mem_append.1 hz with hz | hz
                · exact HIM.out z hz
                · rw [List.mem_singleton.1 hz]; exact (ins_text hh).2.2
              clear hh hx HB1 HB2
              simp only [Option.isSome_some]
              obtain ⟨gx, hgx⟩ : ∃ gx, gx = w7.heap.size := ⟨_, rfl⟩
              go_upto_region 17 with fail
              rw [← hW9, ← hgx]
              rw [← hW9] at KX9 BL9
              rw [← hgx] at KX9
              clear hW9 hgx
              have KC9 := Lib.hid (block_below BL9.out KC6.out)
              have KR9 := Lib.hid (block_below BL9.out KR6.out)
              have OA9 := Lib.hid (OA6.out.below BL9.out)
              have BB9 := Lib.hid (below_both BB6.out BL9.out)
              have SS9 : Hid (Same (fun b => b < g9) W3 W9) := ⟨Nat.le_trans SS6.out.1 BL9.out.size, fun b hb hlt => (BL9.out.block b (by have := HGW.out; have := HS6.out; omega)).trans (SS6.out.2 b hb hlt)⟩
              have HSZ9 : Hid (g9 + 1 ≤ W9.heap.size) := by show _ ≤ _; have := (Array.getElem?_eq_some_iff.1 KC9.out).1; omega
              obtain ⟨z0, z1, z2, z3⟩ := cd_block4 KC9.out
              obtain ⟨x0, x1, x2, x3, x4, x5⟩ := in_block KX9.out
              go_wp2_with (first
                | (at_builtin; refine wpList_append_ev _ rfl _ _ 22 rfl _ _ rfl rfl _ (run_app1 W9 infoIn rfl _ OA9.out 48 (inCells x) x rfl (by have := HCL.out; omega) (by have := HCL.out; omega) (by have := HSZ9.out; omega)) ?_
                   rintro n2 w10 ⟨ow, g10, v10, a10, c10, rfl⟩
                   have KC10 := Lib.hid (block_grown g10 KC9.out (fun e => by have := (OA9.out.lt _ e.symm).1; omega))
                   have KR10 := Lib.hid (block_grown g10 KR9.out (fun e => by have := (OA9.out.lt _ e.symm).1; omega))
                   have BB10 := Lib.hid (BB9.out.grown g10 BB9.out.size (fun k hk => by have := (OA9.out.lt k hk).1; omega))
                   have S10 := Same.grown (S := fun b => b < g9) g10 (fun b hb e => by have := (OA9.out.lt b e.symm).1; omega)
                   have SS10 : Hid (Same (fun b => b < g9) W3 w10) := ⟨Nat.le_trans SS9.out.1 S10.1, fun b hb hlt => (S10.2 b hb (Nat.lt_of_lt_of_le hlt SS9.out.1)).trans (SS9.out.2 b hb hlt)⟩
                   have OA10 := Lib.hid ow
                   obtain ⟨q0, q1, q2, q3⟩ := cd_block4 KC10.out
                   have qf : ∀ i, w10.frozen? ⟨g9, i, none⟩ = false := fun i => frozen_of_block KC10.out
                   have KR11 := Lib.hid (block_far (p := ⟨g9, 2, none⟩) KR10.out (.slice a10 (acc.length + 1) c10) hgr)
                   have BB11 := Lib.hid (BB10.out.setCell (p := ⟨g9, 2, none⟩) (Nat.le_of_lt hrg) (.slice a10 (acc.length + 1) c10))
                   clear ow g10 v10 S10)
                | fail)
              go_roundw
              case rel => exact ⟨j + 1, acc ++ [x], .slice a10 (acc.length + 1) c10, by omega, by omega, by go_num, four_2 KC10.out _, KR11.out, own_set OA10.out _, BB11.out, same_setg SS10.out _, by show _ ≤ _; have := HCL.out; simp; omega, HIX.out, by show _ = stW _ _ _ _; rw [← HMORE.out]; exact HE.out⟩
              case measure => simp [intOf]; omega
end Go.Proofs.Sat
