/- MsA, MsB, one after the other. -/
import Derived.Test.YtiepphjpfjfkmaaDoorInsW
import Derived.Test.YtiepphjpfjfkmaaDoorDgQ
import Derived.Test.YtiepphjpfjfkmaaDoorIsaK
set_option linter.unusedVariables false
set_option linter.unusedSimpArgs false
/- Words of ch. 48: names, prices, texts of the machine's programs, and what Parse answers. No program stands in it. -/
namespace Go.Proofs.Sat
open Go
def nameT : List (List UInt8) := [[110, 111, 112], [109, 111, 118, 105], [109, 111, 118], [110, 111, 116], [110, 101, 103], [97, 110, 100], [111, 114], [120, 111, 114], [97, 100, 100], [115, 117, 98], [109, 117, 108], [100, 105, 118], [114, 101, 109], [115, 104, 108], [115, 104, 114], [115, 97, 114], [101, 113], [117, 108, 116], [115, 108, 116], [115, 101, 108]]
/-- The name of an operation. -/
def nameL (op : Int) : List UInt8 := if knownI op = true then nameT.getD op.toNat [] else []
/-- The operation with a name; -1 if there is none. -/
def ofI (l : List UInt8) : Int := if nameT.findIdx (fun x => x == l) < 20 then (nameT.findIdx (fun x => x == l) : Nat) else -1
def priceI (op : Int) : Int := if knownI op = false ∨ op = 0 then 0 else if op = 10 then 3 else if op = 11 ∨ op = 12 then 12 else 1
def costI (l : List In) : Int := (l.map fun x => priceI x.op).sum
def regWd (r : Int) : List UInt8 := 114 :: Lib.itoa r
def regsL (l : List Int) : List UInt8 := l.flatMap fun r => 32 :: regWd r
def lineL (x : In) : List UInt8 := nameL x.op ++ ((if defsI x = true then regsL [x.dst] else []) ++ ((if x.op = 1 then 32 :: wrL 10 x.imm.toNat else []) ++ regsL (usesI x)))
abbrev wWidth : List UInt8 := [119, 105, 100, 116, 104]
abbrev wRegs : List UInt8 := [114, 101, 103, 115]
abbrev wOut : List UInt8 := [111, 117, 116]
def headL (w n : Int) : List UInt8 := wWidth ++ 32 :: Lib.itoa w ++ 32 :: wRegs ++ 32 :: Lib.itoa n
def printL (c : Cd) : List UInt8 := headL c.width c.regs ++ 10 :: (c.ins.flatMap fun x => lineL x ++ [10]) ++ wOut ++ regsL c.out ++ [10]
/-- A decimal numeral of a number below 2^63. -/
def numW (l : List UInt8) : Option Int := if numE 10 l = 0 ∧ valL 10 l < 9223372036854775808 then some (valL 10 l : Int) else none
def immW (l : List UInt8) : Option Int := if numE 10 l = 0 then some (valL 10 l : Int) else none
def regW : List UInt8 → Option Int
  | [] => none
  | c :: r => if c = 114 then numW r else none
def regsW : List (List UInt8) → Option (List Int)
  | [] => some []
  | p :: r => match regW p with
    | none => none
    | some n => (regsW r).map (n :: ·)
def headW (l : List UInt8) : Option (Int × Int) := match spl 32 l with
  | [a, b, c, d] => if a = wWidth ∧ c = wRegs then (match numW b, numW d with
    | some x, some y => some (x, y)
    | _, _ => none) else none
  | _ => none
def movW : List (List UInt8) → Option In
  | [d, v] => match regW d, immW v with
    | some r, some x => some ⟨1, r, 0, 0, 0, x⟩
    | _, _ => none
  | _ => none
def othW (op : Int) (rest : List (List UInt8)) : Option In := match regsW rest with
  | none => none
  | some l => if (l.length : Int) = srcN op + (if op = 0 then 0 else 1) then some ⟨op, l.getD 0 0, l.getD 1 0, l.getD 2 0, l.getD 3 0, 0⟩ else none
def insW : List (List UInt8) → Option In
  | [] => none
  | p :: rest => if ofI p < 0 then none else if ofI p = 1 then movW rest else othW (ofI p) rest
abbrev zCd : Cd := ⟨0, 0, [], []⟩
/-- What Check adds. -/
def endW (c : Cd) : Cd × Int × Int := if cdErr c = 0 then (c, 0, 0) else (zCd, cdIx c + 2, cdErr c)
/-- What the lines behind the first one give. -/
def bodyW (w n : Int) : List In → Nat → List (List UInt8) → Cd × Int × Int
  | _, k, [] => (zCd, (k : Int) + 1, 6)
  | acc, k, l :: r => if (spl 32 l).head? = some wOut then (match regsW (spl 32 l).tail with
      | none => (zCd, (k : Int) + 1, 6)
      | some o => if r = [] then endW ⟨w, n, acc, o⟩ else (zCd, (k : Int) + 2, 6))
    else match insW (spl 32 l) with
      | none => (zCd, (k : Int) + 1, 6)
      | some x => bodyW w n (acc ++ [x]) (k + 1) r
/-- The lines of a text. -/
def linesW (s : List UInt8) : List (List UInt8) := if (spl 10 s).getLast? = some [] then (spl 10 s).dropLast else spl 10 s
def parseW (s : List UInt8) : Cd × Int × Int := if 65536 < s.length then (zCd, 0, 7) else match linesW s with
  | [] => (zCd, 1, 6)
  | l :: r => match headW l with
    | none => (zCd, 1, 6)
    | some (w, n) => bodyW w n [] 1 r
end Go.Proofs.Sat
/- Plain laws of ch. 48: Parse inverts Print, and an accepted text is printed again. -/
namespace Go.Proofs.Sat
open Go
theorem join_splS (s : UInt8) (l : List UInt8) : Lib.join (spl s l) [s] = l := by
  induction l with
  | nil => rfl
  | cons c r ih =>
    conv => lhs; unfold spl
    cases hs : spl s r with
    | nil => exact absurd hs (spl_ne _ _)
    | cons a b =>
      rw [hs, Lib.join_cons] at ih
      by_cases hc : c = s
      · rw [if_pos hc, Lib.join_cons, hc]
        simp [Lib.joinTail] at ih ⊢
        exact ih
      · rw [if_neg hc]
        simp only [glue]
        rw [Lib.join_cons, ← ih]
        simp
/-! ### Numbers and registers -/
theorem numW_itoa {n : Int} (h0 : 0 ≤ n) (h1 : n ≤ 9223372036854775807) : numW (Lib.itoa n) = some n := by
  have hv := wrL_val (b := 10) (.inl rfl) n.toNat
  have hg := wrL_good (b := 10) (.inl rfl) n.toNat
  have hE := numE_ok hg (by rw [hv]; omega)
  rw [itoa_pos h0]
  unfold numW
  rw [if_pos ⟨hE.1, by rw [hv]; omega⟩, hv]
  congr 1
  omega
theorem numW_text {l : List UInt8} {n : Int} (h : numW l = some n) : Lib.itoa n = l ∧ 0 ≤ n ∧ n ≤ 9223372036854775807 := by
  unfold numW at h
  split at h
  · rename_i hc
    obtain ⟨h1, h2, h3⟩ := numE_zero hc.1
    cases h
    refine ⟨?_, by omega, by have := hc.2; omega⟩
    rw [itoa_pos (by omega), Int.toNat_natCast]
    exact good_wrL (.inl rfl) _ _ (Nat.le_refl _) h1
  · cases h
theorem immW_dec {x : Int} (h0 : 0 ≤ x) (h1 : x < 18446744073709551616) : immW (wrL 10 x.toNat) = some x := by
  have hv := wrL_val (b := 10) (.inl rfl) x.toNat
  have hg := wrL_good (b := 10) (.inl rfl) x.toNat
  have hE := numE_ok hg (by rw [hv]; omega)
  unfold immW
  rw [if_pos hE.1, hv]
  congr 1
  omega
theorem immW_text {l : List UInt8} {x : Int} (h : immW l = some x) : wrL 10 x.toNat = l ∧ 0 ≤ x ∧ x < 18446744073709551616 := by
  unfold immW at h
  split at h
  · rename_i hc
    obtain ⟨h1, h2, h3⟩ := numE_zero hc
    cases h
    refine ⟨?_, by omega, by omega⟩
    rw [Int.toNat_natCast]
    exact good_wrL (.inl rfl) _ _ (Nat.le_refl _) h1
  · cases h
theorem regW_wd {r : Int} (h0 : 0 ≤ r) (h1 : r ≤ 9223372036854775807) : regW (regWd r) = some r := by
  unfold regWd
  rw [regW, if_pos rfl]
  exact numW_itoa h0 h1
theorem regW_text {l : List UInt8} {r : Int} (h : regW l = some r) : regWd r = l ∧ 0 ≤ r ∧ r ≤ 9223372036854775807 := by
  cases l with
  | nil => cases h
  | cons c l =>
    rw [regW] at h
    split at h
    · rename_i hc
      obtain ⟨h1, h2⟩ := numW_text h
      subst hc
      exact ⟨by unfold regWd; rw [h1], h2⟩
    · cases h
theorem regsW_wd : ∀ {l : List Int}, (∀ r ∈ l, 0 ≤ r ∧ r ≤ 9223372036854775807) → regsW (l.map regWd) = some l
  | [], _ => rfl
  | r :: l, h => by
    rw [List.map_cons, regsW, regW_wd (h r (by simp)).1 (h r (by simp)).2, regsW_wd (fun x hx => h x (by simp [hx]))]
    rfl
theorem regsW_text : ∀ {ws : List (List UInt8)} {l : List Int}, regsW ws = some l → ws = l.map regWd ∧ ∀ r ∈ l, 0 ≤ r ∧ r ≤ 9223372036854775807
  | [], l, h => by cases h; exact ⟨rfl, by simp⟩
  | p :: ws, l, h => by
    unfold regsW at h
    split at h
    · cases h
    · rename_i n hn
      cases hr : regsW ws with
      | none => rw [hr] at h; cases h
      | some m =>
        rw [hr] at h
        cases h
        obtain ⟨h1, h2⟩ := regsW_text hr
        obtain ⟨h3, h4⟩ := regW_text hn
        refine ⟨by rw [List.map_cons, h3, ← h1], fun r hr => ?_⟩
        rcases List.mem_cons.1 hr with rfl | hr
        · exact h4
        · exact h2 r hr
theorem regsL_words (l : List Int) : regsL l = Lib.joinTail [32] (l.map regWd) := by
  unfold regsL Lib.joinTail
  rw [List.map_map, List.flatMap_def]
  rfl
theorem no_word {c : UInt8} (hc : ¬ (48 ≤ c.toNat ∧ c.toNat ≤ 57)) (h45 : c ≠ 45) (n : Int) : c ∉ Lib.itoa n := by
  rcases Int.lt_or_le n 0 with h | h
  · rw [itoa_neg h, List.mem_cons]
    rintro (h | h)
    · exact h45 h
    · exact dec_no hc h
  · rw [itoa_pos h]; exact dec_no hc
theorem no_reg {c : UInt8} (hc : ¬ (48 ≤ c.toNat ∧ c.toNat ≤ 57)) (h45 : c ≠ 45) (h114 : c ≠ 114) (n : Int) : c ∉ regWd n := by
  unfold regWd
  rw [List.mem_cons]
  rintro (h | h)
  · exact h114 h
  · exact no_word hc h45 n h
/-! ### Names -/
theorem known_cases {op : Int} (h : knownI op = true) : op = 0 ∨ op = 1 ∨ op = 2 ∨ op = 3 ∨ op = 4 ∨ op = 5 ∨ op = 6 ∨ op = 7 ∨ op = 8 ∨ op = 9 ∨ op = 10 ∨ op = 11 ∨ op = 12 ∨ op = 13 ∨ op = 14 ∨ op = 15 ∨ op = 16 ∨ op = 17 ∨ op = 18 ∨ op = 19 := by
  unfold knownI at h
  rw [decide_eq_true_eq] at h
  omega
theorem ofI_name {op : Int} (h : knownI op = true) : ofI (nameL op) = op := by
  rcases known_cases h with rfl | rfl | rfl | rfl | rfl | rfl | rfl | rfl | rfl | rfl | rfl | rfl | rfl | rfl | rfl | rfl | rfl | rfl | rfl | rfl <;> decide +kernel
theorem name_no {op : Int} (h : knownI op = true) : (32 : UInt8) ∉ nameL op ∧ (10 : UInt8) ∉ nameL op ∧ nameL op ≠ wOut ∧ nameL op ≠ [] := by
  rcases known_cases h with rfl | rfl | rfl | rfl | rfl | rfl | rfl | rfl | rfl | rfl | rfl | rfl | rfl | rfl | rfl | rfl | rfl | rfl | rfl | rfl <;> decide +kernel
theorem ofI_text {l : List UInt8} (h : ¬ ofI l < 0) : knownI (ofI l) = true ∧ nameL (ofI l) = l := by
  unfold ofI at h ⊢
  split at h
  · rename_i hi
    rw [if_pos hi]
    have hlt : nameT.findIdx (fun x => x == l) < nameT.length := hi
    have hk : knownI ((nameT.findIdx (fun x => x == l) : Nat) : Int) = true := by
      unfold knownI
      exact decide_eq_true (by omega)
    refine ⟨hk, ?_⟩
    have he := List.findIdx_getElem (w := hlt)
    unfold nameL
    rw [if_pos hk, Int.toNat_natCast, List.getD_eq_getElem?_getD, List.getElem?_eq_getElem hlt]
    simpa using he
  · omega
/-! ### Lines -/
def wordsL (x : In) : List (List UInt8) := (if defsI x = true then [regWd x.dst] else []) ++ ((if x.op = 1 then [wrL 10 x.imm.toNat] else []) ++ (usesI x).map regWd)
theorem joinTail_app (s : List UInt8) (l m : List (List UInt8)) : Lib.joinTail s (l ++ m) = Lib.joinTail s l ++ Lib.joinTail s m := by
  unfold Lib.joinTail
  rw [List.map_append, List.flatten_append]
theorem line_join (x : In) : lineL x = Lib.join (nameL x.op :: wordsL x) [32] := by
  unfold lineL wordsL
  rw [Lib.join_cons, joinTail_app, joinTail_app, ← regsL_words]
  congr 2
  · split <;> simp [regsL, Lib.joinTail]
  · congr 1
    split <;> simp [Lib.joinTail]
theorem words_no {c : UInt8} (hc : ¬ (48 ≤ c.toNat ∧ c.toNat ≤ 57)) (h45 : c ≠ 45) (h114 : c ≠ 114) (x : In) : ∀ p ∈ wordsL x, c ∉ p := by
  intro p hp
  unfold wordsL at hp
  rcases List.mem_append.1 hp with hp | hp
  · split at hp
    · rw [List.mem_singleton.1 hp]; exact no_reg hc h45 h114 _
    · cases hp
  · rcases List.mem_append.1 hp with hp | hp
    · split at hp
      · rw [List.mem_singleton.1 hp]; exact dec_no hc
      · cases hp
    · obtain ⟨r, _, rfl⟩ := List.mem_map.1 hp
      exact no_reg hc h45 h114 _
theorem spl_line {x : In} (hk : knownI x.op = true) : spl 32 (lineL x) = nameL x.op :: wordsL x := by
  rw [line_join]
  refine spl_join _ (by simp) fun p hp => ?_
  rcases List.mem_cons.1 hp with rfl | hp
  · exact (name_no hk).1
  · exact words_no (by decide) (by decide) (by decide) x p hp
theorem join_no {c : UInt8} (hc : c ≠ 32) (l : List (List UInt8)) (h : ∀ p ∈ l, c ∉ p) : c ∉ Lib.join l [32] := by
  cases l with
  | nil => simp [Lib.join_nil]
  | cons p r =>
    rw [Lib.join_cons]
    intro hm
    rcases List.mem_append.1 hm with hm | hm
    · exact h p (by simp) hm
    · unfold Lib.joinTail at hm
      obtain ⟨q, hq, hcq⟩ := List.mem_flatten.1 hm
      obtain ⟨p', hp', rfl⟩ := List.mem_map.1 hq
      rcases List.mem_append.1 hcq with h2 | h2
      · exact hc (by simpa using h2)
      · exact h p' (by simp [hp']) h2
theorem line_no10 {x : In} (hk : knownI x.op = true) : (10 : UInt8) ∉ lineL x := by
  rw [line_join]
  refine join_no (by decide) _ fun p hp => ?_
  rcases List.mem_cons.1 hp with rfl | hp
  · exact (name_no hk).2.1
  · exact words_no (by decide) (by decide) (by decide) x p hp
theorem src_ways {op : Int} (hk : knownI op = true) : (op = 0) ∨ (op = 1) ∨ (op ≠ 0 ∧ op ≠ 1 ∧ srcN op = 1) ∨ (op ≠ 0 ∧ op ≠ 1 ∧ srcN op = 2) ∨ (op ≠ 0 ∧ op ≠ 1 ∧ srcN op = 3) := by
  rcases known_cases hk with rfl | rfl | rfl | rfl | rfl | rfl | rfl | rfl | rfl | rfl | rfl | rfl | rfl | rfl | rfl | rfl | rfl | rfl | rfl | rfl <;> decide
theorem defs_known {x : In} (hk : knownI x.op = true) (h0 : x.op ≠ 0) : defsI x = true := by
  unfold knownI at hk
  rw [decide_eq_true_eq] at hk
  unfold defsI
  exact decide_eq_true (by omega)
theorem insErr_ok {w n : Int} {x : In} (h : insErr w n x = 0) : knownI x.op = true ∧ (defsI x = true → inR x.dst n = true) ∧ (∀ r ∈ usesI x, inR r n = true) ∧ ¬ (x.op = 1 ∧ maskI w < x.imm) ∧ (x.op = 1 ∨ x.imm = 0) ∧ (x.op = 0 → x.dst = 0) ∧ ∀ r ∈ [x.a, x.b, x.c].drop (srcN x.op).toNat, r = 0 := by
  unfold insErr at h
  split at h
  · cases h
  · rename_i h1
    split at h
    · cases h
    · rename_i h2
      split at h
      · cases h
      · rename_i h3
        split at h
        · cases h
        · rename_i h4
          split at h
          · cases h
          · rename_i h5
            refine ⟨by simpa using h1, fun hd => ?_, fun r hr => ?_, h4, ?_, ?_, fun r hr => ?_⟩
            · cases hi : inR x.dst n with
              | true => rfl
              | false => exact absurd ⟨hd, hi⟩ h2
            · have h3' : (usesI x).all (fun r => inR r n) = true := by simpa using h3
              exact List.all_eq_true.1 h3' r hr
            · by_cases e : x.op = 1
              · exact .inl e
              · right
                by_cases e2 : x.imm = 0
                · exact e2
                · exact absurd (.inl ⟨e, e2⟩) h5
            · intro e
              by_cases e2 : x.dst = 0
              · exact e2
              · exact absurd (.inr (.inl ⟨e, e2⟩)) h5
            · have h6 : ([x.a, x.b, x.c].drop (srcN x.op).toNat).all (fun r => r == 0) = true := by
                cases hi : ([x.a, x.b, x.c].drop (srcN x.op).toNat).all (fun r => r == 0) with
                | true => rfl
                | false => exact absurd (.inr (.inr hi)) h5
              simpa using List.all_eq_true.1 h6 r hr
theorem inR_le {r n : Int} (hn : n ≤ 8) (h : inR r n = true) : 0 ≤ r ∧ r ≤ 9223372036854775807 := by
  unfold inR at h
  rw [decide_eq_true_eq] at h
  omega
theorem in_ext {x y : In} (h0 : x.op = y.op) (h1 : x.dst = y.dst) (h2 : x.a = y.a) (h3 : x.b = y.b) (h4 : x.c = y.c) (h5 : x.imm = y.imm) : x = y := by
  cases x; cases y; simp_all
theorem ins_back {w n : Int} {x : In} (hn : n ≤ 8) (h : insErr w n x = 0) (hi : 0 ≤ x.imm ∧ x.imm < 18446744073709551616) : insW (nameL x.op :: wordsL x) = some x := by
  obtain ⟨hk, hd, hu, _, him, hz, hr⟩ := insErr_ok h
  have hop : ¬ x.op < 0 := by unfold knownI at hk; rw [decide_eq_true_eq] at hk; omega
  rw [insW, ofI_name hk, if_neg hop]
  rcases src_ways hk with e | e | ⟨e0, e1, e2⟩ | ⟨e0, e1, e2⟩ | ⟨e0, e1, e2⟩
  · have hw : wordsL x = [] := by unfold wordsL usesI defsI; rw [e]; rfl
    rw [if_neg (by omega), hw]
    rw [e] at hr
    have h0 : (srcN 0).toNat = 0 := rfl
    rw [h0] at hr
    simp at hr
    have hl : (([] : List Int).length : Int) = srcN x.op + (if x.op = 0 then 0 else 1) := by rw [e]; decide
    unfold othW
    rw [regsW]
    dsimp only
    rw [if_pos hl]
    congr 1
    refine in_ext rfl ?_ ?_ ?_ ?_ ?_
    · exact (hz e).symm
    · exact hr.1.symm
    · exact hr.2.1.symm
    · exact hr.2.2.symm
    · rcases him with h | h
      · omega
      · exact h.symm
  · have hdf : defsI x = true := defs_known hk (by omega)
    have hus : usesI x = [] := by unfold usesI; rw [e]; rfl
    have hw : wordsL x = [regWd x.dst, wrL 10 x.imm.toNat] := by unfold wordsL; rw [hus, if_pos hdf, if_pos e]; rfl
    have hdd := inR_le hn (hd hdf)
    rw [if_pos e, hw]
    rw [e] at hr
    have h0 : (srcN 1).toNat = 0 := rfl
    rw [h0] at hr
    simp at hr
    rw [movW, regW_wd hdd.1 hdd.2, immW_dec hi.1 hi.2]
    dsimp only
    congr 1
    exact in_ext e.symm rfl hr.1.symm hr.2.1.symm hr.2.2.symm rfl
  all_goals
    have hdf : defsI x = true := defs_known hk e0
    have hw : wordsL x = (x.dst :: usesI x).map regWd := by unfold wordsL; rw [if_pos hdf, if_neg e1]; rfl
    have hall : ∀ r ∈ x.dst :: usesI x, 0 ≤ r ∧ r ≤ 9223372036854775807 := fun r hr => by
      rcases List.mem_cons.1 hr with rfl | hr
      · exact inR_le hn (hd hdf)
      · exact inR_le hn (hu r hr)
    have hl : ((x.dst :: usesI x).length : Int) = srcN x.op + (if x.op = 0 then 0 else 1) := by unfold usesI; rw [e2, if_neg e0]; rfl
    rw [if_neg e1, hw]
    unfold othW
    rw [regsW_wd hall]
    dsimp only
    rw [if_pos hl]
    have him0 : x.imm = 0 := by rcases him with h | h; exact absurd h e1; exact h
    unfold usesI
    rw [e2] at hr ⊢
    simp only [Int.reduceToNat, List.drop_succ_cons, List.drop_zero, List.drop_nil, List.mem_cons, List.not_mem_nil, or_false, forall_eq_or_imp, forall_eq, false_implies, implies_true] at hr
    simp only [Int.reduceToNat, List.take_succ_cons, List.take_zero, List.take_nil]
    congr 1
    refine in_ext rfl rfl ?_ ?_ ?_ him0.symm
    all_goals simp [hr]
theorem len_one {l : List Int} (h : l.length = 1) : ∃ a, l = [a] := List.length_eq_one_iff.1 h
theorem len_two {l : List Int} (h : l.length = 2) : ∃ a b, l = [a, b] := by
  match l, h with
  | [a, b], _ => exact ⟨a, b, rfl⟩
theorem len_three {l : List Int} (h : l.length = 3) : ∃ a b c, l = [a, b, c] := by
  match l, h with
  | [a, b, c], _ => exact ⟨a, b, c, rfl⟩
theorem len_four {l : List Int} (h : l.length = 4) : ∃ a b c d, l = [a, b, c, d] := by
  match l, h with
  | [a, b, c, d], _ => exact ⟨a, b, c, d, rfl⟩
theorem ins_text {ws : List (List UInt8)} {x : In} (h : insW ws = some x) : ws = nameL x.op :: wordsL x ∧ knownI x.op = true ∧ 0 ≤ x.imm ∧ x.imm < 18446744073709551616 := by
  cases ws with
  | nil => cases h
  | cons p rest =>
    rw [insW] at h
    split at h
    · cases h
    · rename_i hp
      obtain ⟨hk, hn⟩ := ofI_text hp
      split at h
      · rename_i h1
        unfold movW at h
        split at h
        · rename_i d v
          split at h
          · rename_i r y hr hy
            cases h
            obtain ⟨h2, h3⟩ := regW_text hr
            obtain ⟨h4, h5⟩ := immW_text hy
            rw [h1] at hn hk
            refine ⟨?_, hk, h5⟩
            unfold wordsL usesI defsI
            simp only [Int.reduceLE, Int.reduceEq, and_self, decide_true, if_true]
            rw [hn, h2, h4]
            rfl
          · cases h
        · cases h
      · rename_i h1
        unfold othW at h
        cases hr : regsW rest with
        | none => rw [hr] at h; cases h
        | some l =>
          rw [hr] at h
          dsimp only at h
          obtain ⟨h2, h3⟩ := regsW_text hr
          by_cases hl : (l.length : Int) = srcN (ofI p) + (if ofI p = 0 then 0 else 1)
          · rw [if_pos hl] at h
            cases h
            refine ⟨?_, hk, Int.le_refl _, by show (0 : Int) < _; decide⟩
            dsimp only
            rw [hn, h2]
            congr 1
            generalize ofI p = op at *
            rcases src_ways hk with e | e | ⟨e0, e1, e2⟩ | ⟨e0, e1, e2⟩ | ⟨e0, e1, e2⟩
            · subst e
              rw [if_pos rfl] at hl
              have h0 : srcN 0 + 0 = 0 := by decide
              rw [h0] at hl
              obtain rfl : l = [] := List.eq_nil_of_length_eq_zero (by omega)
              rfl
            · exact absurd e h1
            · rw [e2, if_neg e0] at hl
              obtain ⟨a, b, rfl⟩ := len_two (l := l) (by omega)
              have hdf : defsI ⟨op, a, b, 0, 0, 0⟩ = true := defs_known (x := ⟨op, a, b, 0, 0, 0⟩) hk e0
              show _ = wordsL ⟨op, a, b, 0, 0, 0⟩
              unfold wordsL usesI
              rw [hdf, if_pos rfl, if_neg e1, e2]
              rfl
            · rw [e2, if_neg e0] at hl
              obtain ⟨a, b, c, rfl⟩ := len_three (l := l) (by omega)
              have hdf : defsI ⟨op, a, b, c, 0, 0⟩ = true := defs_known (x := ⟨op, a, b, c, 0, 0⟩) hk e0
              show _ = wordsL ⟨op, a, b, c, 0, 0⟩
              unfold wordsL usesI
              rw [hdf, if_pos rfl, if_neg e1, e2]
              rfl
            · rw [e2, if_neg e0] at hl
              obtain ⟨a, b, c, d, rfl⟩ := len_four (l := l) (by omega)
              have hdf : defsI ⟨op, a, b, c, d, 0⟩ = true := defs_known (x := ⟨op, a, b, c, d, 0⟩) hk e0
              show _ = wordsL ⟨op, a, b, c, d, 0⟩
              unfold wordsL usesI
              rw [hdf, if_pos rfl, if_neg e1, e2]
              rfl
          · rw [if_neg hl] at h
            cases h
/-! ### The whole text -/
theorem head_join (w n : Int) : headL w n = Lib.join [wWidth, Lib.itoa w, wRegs, Lib.itoa n] [32] := by
  unfold headL
  rw [Lib.join_cons]
  simp [Lib.joinTail]
theorem spl_head (w n : Int) : spl 32 (headL w n) = [wWidth, Lib.itoa w, wRegs, Lib.itoa n] := by
  rw [head_join]
  refine spl_join _ (by simp) fun p hp => ?_
  simp only [List.mem_cons, List.not_mem_nil, or_false] at hp
  rcases hp with rfl | rfl | rfl | rfl
  · decide
  · exact itoa_no32 _
  · decide
  · exact itoa_no32 _
theorem head_no10 (w n : Int) : (10 : UInt8) ∉ headL w n := by
  rw [head_join]
  refine join_no (by decide) _ fun p hp => ?_
  simp only [List.mem_cons, List.not_mem_nil, or_false] at hp
  rcases hp with rfl | rfl | rfl | rfl
  · decide
  · exact no_word (by decide) (by decide) _
  · decide
  · exact no_word (by decide) (by decide) _
theorem head_back {w n : Int} (hw : 0 ≤ w ∧ w ≤ 9223372036854775807) (hn : 0 ≤ n ∧ n ≤ 9223372036854775807) : headW (headL w n) = some (w, n) := by
  unfold headW
  rw [spl_head]
  dsimp only
  rw [if_pos ⟨rfl, rfl⟩, numW_itoa hw.1 hw.2, numW_itoa hn.1 hn.2]
theorem head_text {l : List UInt8} {w n : Int} (h : headW l = some (w, n)) : headL w n = l := by
  unfold headW at h
  split at h
  · rename_i a b c d hs
    split at h
    · rename_i hc
      split at h
      · rename_i x y hx hy
        cases h
        rw [head_join, (numW_text hx).1, (numW_text hy).1, ← hc.1, ← hc.2, ← hs, join_spl]
      · cases h
    · cases h
  · cases h
def outL (l : List Int) : List UInt8 := wOut ++ regsL l
theorem out_join (l : List Int) : outL l = Lib.join (wOut :: l.map regWd) [32] := by
  unfold outL
  rw [Lib.join_cons, regsL_words]
theorem spl_out (l : List Int) : spl 32 (outL l) = wOut :: l.map regWd := by
  rw [out_join]
  refine spl_join _ (by simp) fun p hp => ?_
  rcases List.mem_cons.1 hp with rfl | hp
  · decide
  · obtain ⟨r, _, rfl⟩ := List.mem_map.1 hp
    exact no_reg (by decide) (by decide) (by decide) _
theorem out_no10 (l : List Int) : (10 : UInt8) ∉ outL l := by
  rw [out_join]
  refine join_no (by decide) _ fun p hp => ?_
  rcases List.mem_cons.1 hp with rfl | hp
  · decide
  · obtain ⟨r, _, rfl⟩ := List.mem_map.1 hp
    exact no_reg (by decide) (by decide) (by decide) _
/-- The lines of a printed program. -/
def linesL (c : Cd) : List (List UInt8) := headL c.width c.regs :: (c.ins.map lineL ++ [outL c.out])
theorem print_lines (c : Cd) : printL c = ((linesL c).map (· ++ [10])).flatten := by
  unfold printL linesL
  rw [List.map_cons, List.flatten_cons, List.map_append, List.flatten_append, List.map_map, List.flatMap_def]
  simp [outL, Function.comp_def]
theorem spl_ended {ls : List (List UInt8)} (h : ∀ p ∈ ls, (10 : UInt8) ∉ p) : spl 10 ((ls.map (· ++ [10])).flatten) = ls ++ [[]] := by
  induction ls with
  | nil => rfl
  | cons p r ih =>
    rw [List.map_cons, List.flatten_cons, List.append_assoc, List.singleton_append, spl_cut (h p (by simp)), ih (fun q hq => h q (by simp [hq]))]
    rfl
theorem lines_print {c : Cd} (h : ∀ x ∈ c.ins, knownI x.op = true) : linesW (printL c) = linesL c := by
  have hs : spl 10 (printL c) = linesL c ++ [[]] := by
    rw [print_lines]
    refine spl_ended fun p hp => ?_
    unfold linesL at hp
    rcases List.mem_cons.1 hp with rfl | hp
    · exact head_no10 _ _
    · rcases List.mem_append.1 hp with hp | hp
      · obtain ⟨x, hx, rfl⟩ := List.mem_map.1 hp
        exact line_no10 (h x hx)
      · rw [List.mem_singleton.1 hp]; exact out_no10 _
  unfold linesW
  rw [hs, if_pos (by simp), List.dropLast_concat]
theorem cdErr_parts {c : Cd} (h : cdErr c = 0) : (1 ≤ c.width ∧ c.width ≤ 64) ∧ (1 ≤ c.regs ∧ c.regs ≤ 8) ∧ c.ins.length ≤ 256 ∧ (∀ x ∈ c.ins, insErr c.width c.regs x = 0) ∧ (∀ r ∈ c.out, inR r c.regs = true) ∧ c.out.Nodup := by
  unfold cdErr at h
  split at h
  · cases h
  · rename_i h1
    split at h
    · cases h
    · rename_i h2
      split at h
      · cases h
      · rename_i h3
        split at h
        · rename_i h4; exact absurd h h4
        · rename_i h4
          split at h
          · cases h
          · rename_i h5
            split at h
            · cases h
            · rename_i h6
              refine ⟨by simpa using h1, by simpa using h2, by omega, insErrs_zero.1 (by simpa using h4), fun r hr => ?_, by simpa using h6⟩
              have h5' : c.out.all (fun r => inR r c.regs) = true := by simpa using h5
              exact List.all_eq_true.1 h5' r hr
theorem endW_ok {c : Cd} (h : cdErr c = 0) : endW c = (c, 0, 0) := by unfold endW; rw [if_pos h]
theorem body_out {w n : Int} {acc : List In} {k : Nat} {o : List Int} (ho : ∀ r ∈ o, 0 ≤ r ∧ r ≤ 9223372036854775807) : bodyW w n acc k [outL o] = endW ⟨w, n, acc, o⟩ := by
  rw [bodyW, spl_out, if_pos (by rfl), List.tail_cons, regsW_wd ho]
  dsimp only
  rw [if_pos rfl]
theorem body_ins {w n : Int} (hn : n ≤ 8) : ∀ (l : List In) (acc : List In) (k : Nat) (rest : List (List UInt8)), (∀ x ∈ l, insErr w n x = 0 ∧ 0 ≤ x.imm ∧ x.imm < 18446744073709551616) →
    bodyW w n acc k (l.map lineL ++ rest) = bodyW w n (acc ++ l) (k + l.length) rest
  | [], acc, k, rest, _ => by simp
  | x :: l, acc, k, rest, h => by
    obtain ⟨h1, h2⟩ := h x (by simp)
    have hk := (insErr_ok h1).1
    rw [List.map_cons, List.cons_append, bodyW, spl_line hk, if_neg (by simpa using (name_no hk).2.2.1), ins_back hn h1 h2]
    dsimp only
    rw [body_ins hn l _ _ _ (fun y hy => h y (by simp [hy])), List.append_assoc, List.length_cons]
    congr 1
    omega
theorem reg_len {r n : Int} (hn : n ≤ 8) (h : inR r n = true) : (regWd r).length = 2 := by
  unfold inR at h
  rw [decide_eq_true_eq] at h
  unfold regWd
  rw [itoa_pos h.1, wrL_small (by omega)]
  rfl
theorem regs_len {n : Int} (hn : n ≤ 8) : ∀ l : List Int, (∀ r ∈ l, inR r n = true) → (regsL l).length = 3 * l.length
  | [], _ => by simp [regsL]
  | r :: l, h => by
    have h1 := reg_len hn (h r (by simp))
    have h2 := regs_len hn l (fun s hs => h s (by simp [hs]))
    unfold regsL at h2 ⊢
    rw [List.flatMap_cons, List.length_append, List.length_cons, List.length_cons, h1, h2]
    omega
theorem line_short {w n : Int} {x : In} (h : insErr w n x = 0) (hn : n ≤ 8) (hi : 0 ≤ x.imm ∧ x.imm < 18446744073709551616) : (lineL x).length ≤ 82 := by
  obtain ⟨hk, hd, hu, _⟩ := insErr_ok h
  have hname : (nameL x.op).length ≤ 4 := by
    rcases known_cases hk with e | e | e | e | e | e | e | e | e | e | e | e | e | e | e | e | e | e | e | e <;> rw [e] <;> decide
  have hu2 := regs_len hn (usesI x) hu
  have hul := usesI_length x
  have hdd : (if defsI x = true then regsL [x.dst] else []).length ≤ 3 := by
    split
    · rename_i h; rw [regs_len hn [x.dst] (by simpa using hd h)]; simp
    · simp
  have hii : (if x.op = 1 then 32 :: wrL 10 x.imm.toNat else []).length ≤ 66 := by
    split
    · have := wr_len64 (b := 10) (x := x.imm.toNat) (by omega) (by omega)
      simp; omega
    · simp
  unfold lineL
  simp only [List.length_append]
  omega
theorem lines_len {w n : Int} (hn : n ≤ 8) : ∀ l : List In, (∀ x ∈ l, insErr w n x = 0 ∧ 0 ≤ x.imm ∧ x.imm < 18446744073709551616) → (l.flatMap fun x => lineL x ++ [10]).length ≤ 83 * l.length
  | [], _ => by simp
  | x :: l, h => by
    have h1 := line_short (h x (by simp)).1 hn (h x (by simp)).2
    have h2 := lines_len hn l (fun y hy => h y (by simp [hy]))
    rw [List.flatMap_cons]
    simp only [List.length_append, List.length_cons, List.length_nil]
    omega
abbrev ImmOK (l : List In) : Prop := ∀ x ∈ l, 0 ≤ x.imm ∧ x.imm < 18446744073709551616
theorem nodup_le {n : Nat} : ∀ {l : List Int}, l.Nodup → (∀ r ∈ l, inR r (n : Int) = true) → l.length ≤ n := by
  induction n with
  | zero =>
    intro l _ h
    cases l with
    | nil => simp
    | cons r l =>
      have := h r (by simp)
      unfold inR at this
      rw [decide_eq_true_eq] at this
      omega
  | succ n ih =>
    intro l hnd h
    have hlt : ∀ r ∈ l.filter (fun r => r != (n : Int)), inR r (n : Int) = true := fun r hr => by
      obtain ⟨h1, h2⟩ := List.mem_filter.1 hr
      have := h r h1
      unfold inR at this ⊢
      rw [decide_eq_true_eq] at this ⊢
      rw [bne_iff_ne] at h2
      omega
    have h1 := ih (hnd.filter _) hlt
    have h2 : l.length ≤ (l.filter (fun r => r != (n : Int))).length + 1 := by
      have hc : l.countP (fun r => !(r != (n : Int))) ≤ 1 := by
        have := List.nodup_iff_count.1 hnd (n : Int)
        have e : l.countP (fun r => !(r != (n : Int))) = l.count (n : Int) := by
          unfold List.count
          congr 1
          funext r
          show (!(!(r == (n : Int)))) = (r == (n : Int))
          rw [Bool.not_not]
        omega
      have := List.length_eq_countP_add_countP (fun r => r != (n : Int)) (l := l)
      rw [List.countP_eq_length_filter] at this
      have e2 : l.countP (fun a => decide ¬(a != (n : Int)) = true) = l.countP (fun r => !(r != (n : Int))) := by
        congr 1
        funext r
        cases (r != (n : Int)) <;> rfl
      omega
    omega
/-- A valid program's text is short. -/
theorem print_len {c : Cd} (h : cdErr c = 0) (hi : ImmOK c.ins) : (printL c).length ≤ 65536 := by
  obtain ⟨hw, hr, hl, hins, hout, hnd⟩ := cdErr_parts h
  have h1 := lines_len hr.2 c.ins (fun x hx => ⟨hins x hx, hi x hx⟩)
  have h2 := regs_len hr.2 c.out hout
  have h3 : c.out.length ≤ c.regs.toNat := nodup_le hnd (by rw [Int.toNat_of_nonneg (by omega)]; exact hout)
  have h4 := itoa_len (x := c.width) (by omega)
  have h5 := itoa_len (x := c.regs) (by omega)
  unfold printL headL
  simp only [List.length_append, List.length_cons, List.length_nil]
  omega
/-- Parse inverts Print. -/
theorem parse_print {c : Cd} (h : cdErr c = 0) (hi : ImmOK c.ins) : parseW (printL c) = (c, 0, 0) := by
  obtain ⟨hw, hr, hl, hins, hout, hnd⟩ := cdErr_parts h
  unfold parseW
  rw [if_neg (by have := print_len h hi; omega), lines_print (fun x hx => (insErr_ok (hins x hx)).1)]
  unfold linesL
  dsimp only
  rw [head_back (by omega) (by omega)]
  dsimp only
  rw [body_ins hr.2 c.ins [] 1 _ (fun x hx => ⟨hins x hx, hi x hx⟩), body_out (fun r hr' => inR_le hr.2 (hout r hr')), List.nil_append]
  exact endW_ok h
theorem endW_zero {c d : Cd} (h : endW c = (d, 0, 0)) : c = d ∧ cdErr c = 0 := by
  unfold endW at h
  split at h
  · rename_i he
    cases h
    exact ⟨rfl, he⟩
  · rename_i he
    simp only [Prod.mk.injEq] at h
    exact absurd h.2.2 he
theorem body_text {w n : Int} {d : Cd} : ∀ (ls : List (List UInt8)) (acc : List In) (k : Nat), bodyW w n acc k ls = (d, 0, 0) → ∃ ins o, d = ⟨w, n, acc ++ ins, o⟩ ∧ ls = ins.map lineL ++ [outL o] ∧ cdErr d = 0 ∧ ImmOK ins
  | [], acc, k, h => by
    rw [bodyW] at h
    simp only [Prod.mk.injEq] at h
    omega
  | l :: r, acc, k, h => by
    rw [bodyW] at h
    split at h
    · rename_i hh
      split at h
      · simp only [Prod.mk.injEq] at h; omega
      · rename_i o ho
        split at h
        · rename_i hr
          obtain ⟨h1, h2⟩ := endW_zero h
          obtain ⟨h3, h4⟩ := regsW_text ho
          refine ⟨[], o, by rw [List.append_nil]; exact h1.symm, ?_, by rw [← h1]; exact h2, fun x hx => (by cases hx)⟩
          rw [hr, List.map_nil, List.nil_append]
          congr 1
          cases hs : spl 32 l with
          | nil => exact absurd hs (spl_ne _ _)
          | cons a b =>
            rw [hs] at hh h3
            simp only [List.head?_cons, Option.some.injEq] at hh
            rw [List.tail_cons] at h3
            rw [← join_spl l, hs, hh, h3, ← out_join]
        · simp only [Prod.mk.injEq] at h; omega
    · split at h
      · simp only [Prod.mk.injEq] at h; omega
      · rename_i x hx
        obtain ⟨h1, h2, h3⟩ := ins_text hx
        obtain ⟨ins, o, h4, h5, h6, h7⟩ := body_text r _ _ h
        refine ⟨x :: ins, o, by rw [h4, List.append_assoc]; rfl, ?_, h6, fun y hy => ?_⟩
        · rw [h5, List.map_cons, List.cons_append]
          congr 1
          rw [← join_spl l, h1, ← line_join]
        · rcases List.mem_cons.1 hy with rfl | hy
          · exact h3
          · exact h7 y hy
/-- A text is its lines, each ended, the last one perhaps not. -/
theorem lines_back (s : List UInt8) : ((linesW s).map (· ++ [10])).flatten = s ∨ ((linesW s).map (· ++ [10])).flatten = s ++ [10] := by
  have key : ∀ (ys : List (List UInt8)) (z : List UInt8), Lib.join (ys ++ [z]) [10] = (ys.map (· ++ [10])).flatten ++ z := by
    intro ys z
    cases ys with
    | nil => simp [Lib.join_one]
    | cons y r =>
      rw [List.cons_append, Lib.join_cons]
      induction r generalizing y with
      | nil => simp [Lib.joinTail]
      | cons q r ih =>
        have := ih q
        simp [Lib.joinTail] at this ⊢
        exact this
  have hj := join_splS 10 s
  obtain ⟨ys, z, hx⟩ : ∃ ys z, spl 10 s = ys ++ [z] := ⟨_, _, (List.dropLast_concat_getLast (spl_ne 10 s)).symm⟩
  rw [hx, key] at hj
  unfold linesW
  rw [hx]
  by_cases hz : z = []
  · rw [if_pos (by simp [hz]), List.dropLast_concat]
    left
    rw [← hj, hz, List.append_nil]
  · rw [if_neg (by simp [hz])]
    right
    rw [List.map_append, List.flatten_append, ← hj]
    simp
/-- An accepted text is the text of its program, but for the last line's end. -/
theorem parse_text {s : List UInt8} {c : Cd} (h : parseW s = (c, 0, 0)) : (printL c = s ∨ printL c = s ++ [10]) ∧ cdErr c = 0 ∧ ImmOK c.ins := by
  unfold parseW at h
  split at h
  · simp only [Prod.mk.injEq] at h; omega
  · split at h
    · simp only [Prod.mk.injEq] at h; omega
    · rename_i l r hl
      split at h
      · simp only [Prod.mk.injEq] at h; omega
      · rename_i w n hh
        obtain ⟨ins, o, h1, h2, h3, h4⟩ := body_text r [] 1 h
        have h5 : linesL c = linesW s := by
          rw [hl, h2, h1]
          unfold linesL
          rw [head_text hh]
          rfl
        rw [print_lines, h5]
        exact ⟨lines_back s, h3, by rw [h1]; exact h4⟩
end Go.Proofs.Sat
