/- digits.Int and digits.Parse. -/
import Derived.Test.YtiepphjpfjfkmaaGreatDoorDgE
import Derived.Test.YtiepphjpfjfkmaaGreatDoorDgF
import Derived.Test.YtiepphjpfjfkmaaGreatDoorDgG
import Derived.Test.YtiepphjpfjfkmaaGreatDoorDgH
import Derived.Lib.AtoiErrMem
set_option linter.unusedVariables false
set_option linter.unusedSimpArgs false
namespace Go.Proofs.Sat
open Go Go.RowKit Go.Sort Go.Lib
/-- The error of a number out of range is laid. -/
abbrev ErrT (w : World) : Prop := ∃ ev, w.cell? ⟨6, 0, none⟩ = some ev ∧ (ev = .nilIface ∨ ∃ te pe, ev = .iface te pe)
/-- The greatest length for a short search is a number. -/
abbrev MaxT (w : World) : Prop := ∃ m, w.cell? ⟨1, 0, none⟩ = some (.int .i64 m)
/-- What the library's variables hold. -/
structure DigT (w : World) : Prop where
  pow : PowTab w
  deb : DebT w
  err : ErrT w
  maxl : MaxT w
theorem DigT.below {w w' : World} (h : DigT w) (hb : Below w.heap.size w w') : DigT w' where
  pow := Lib.tabBelow_of_tabIs h.pow w' hb
  deb := Lib.Below.cellOf hb h.deb (Nat.le_refl _)
  err := by
    obtain ⟨ev, h1, h2⟩ := h.err
    exact ⟨ev, Lib.Below.cellOf hb h1 (Nat.le_refl _), h2⟩
  maxl := by
    obtain ⟨m, h1⟩ := h.maxl
    exact ⟨m, Lib.Below.cellOf hb h1 (Nat.le_refl _)⟩
theorem DigT.drawn {w w' : World} (h : DigT w) (hd : Drawn w w') : DigT w' := h.below (hd.below _)
theorem digits_Int (n : Int) (w : World) (h0 : -9223372036854775808 ≤ n) (h1 : n ≤ 9223372036854775807) (hT : DigT w) : Calls Tryz.prog 44 #[.int .i64 n] w fun e w' => e = .returned (.string (strOf (Lib.itoa n))) ∧ Below w.heap.size w w' := by
  have C := Lib.hid (Tryz.strconv_Itoa n h0 h1 w hT.pow)
  clear h0 h1 hT
  go_enter Tryz.func44, Tryz.ntmps44
  go_wp2_with fail
  refine C.out.mono ?_
  rintro e w1 ⟨rfl, k, os, rfl⟩
  have B1 := Lib.hid (Lib.below_grow w.heap.size w (Nat.le_refl _) k os)
  generalize grow (w.drewN k) os = w1 at *
  go_wp2_with fail
  go_ret
  exact ⟨rfl, B1.out⟩
theorem cut_0x (l : List UInt8) (w : World) : Calls Tryz.prog 85 #[.string (strOf l), .string { data := #[48, 120] }] w fun e w' => e = .returned (.tuple #[.string (strOf (if parP l = true then l.drop 2 else l)), .bool (parP l)]) ∧ w' = w := by
  have h := Tryz.strings_CutPrefix (strOf l) { data := #[48, 120] } w
  refine h.mono ?_
  rintro e w1 ⟨rfl, rfl⟩
  refine ⟨?_, rfl⟩
  show Ending.returned (.tuple #[.string ⟨(Lib.trimPrefix l [48, 120]).toArray⟩, .bool (Lib.hasPrefix l [48, 120])]) = _
  unfold Lib.trimPrefix
  rfl
theorem cut_minus (l : List UInt8) (w : World) : Calls Tryz.prog 85 #[.string (strOf l), .string { data := #[45] }] w fun e w' => e = .returned (.tuple #[.string (strOf (if l.head? = some 45 then l.tail else l)), .bool (decide (l.head? = some 45))]) ∧ w' = w := by
  have h := Tryz.strings_CutPrefix (strOf l) { data := #[45] } w
  refine h.mono ?_
  rintro e w1 ⟨rfl, rfl⟩
  refine ⟨?_, rfl⟩
  show Ending.returned (.tuple #[.string ⟨(Lib.trimPrefix l [45]).toArray⟩, .bool (Lib.hasPrefix l [45])]) = _
  have hp : Lib.hasPrefix l [45] = decide (l.head? = some 45) := by
    unfold Lib.hasPrefix
    cases l with
    | nil => rfl
    | cons c r =>
      simp only [List.isPrefixOf, Bool.and_true, List.head?_cons, Option.some.injEq]
      rw [Bool.eq_iff_iff, beq_iff_eq, decide_eq_true_eq]
      exact eq_comm
  unfold Lib.trimPrefix
  rw [hp]
  by_cases hm : l.head? = some 45
  · rw [if_pos hm, if_pos (decide_eq_true hm), List.length_singleton, List.drop_one]; rfl
  · rw [if_neg hm, if_neg (by simp [hm])]; rfl
theorem not_bad {b : Nat} {l : List UInt8} (h : badL b l = false) : l ≠ [] ∧ ∀ c ∈ l, 0 ≤ digI b c.toNat := by
  unfold badL at h
  rw [Bool.or_eq_false_iff, Bool.or_eq_false_iff] at h
  refine ⟨fun e => by subst e; simp at h, fun c hc => ?_⟩
  have := List.any_eq_false.1 h.2 c hc
  simp at this
  omega
theorem ParseUint16_ok (l : List UInt8) (hl : l.length ≤ 1099511627776) (hb : badL 16 l = false) (hv : valL 16 l < 18446744073709551616) (w : World) :
    Calls Tryz.prog 101 #[.string (strOf l), .int .i64 16, .int .i64 64] w fun e w' => e = .returned (.tuple #[.int .u64 (valL 16 l : Int), .nilIface]) ∧ Below w.heap.size w w' := by
  have C := Lib.hid (fun W => inner_ParseUint16 l (not_bad hb).1 hl (not_bad hb).2 W)
  have e : pu16 l = .tuple #[.int .u64 (valL 16 l : Int), .nilIface] := by unfold pu16; rw [if_pos hv]
  rw [e] at C
  clear hb hv hl e
  generalize (valL 16 l : Int) = v at *
  go_enter Tryz.func101, Tryz.ntmps101
  go_wp2_with fail
  refine (C.out _).mono ?_
  rintro e w1 ⟨rfl, b1⟩
  have B1 := Lib.hid b1
  clear b1
  go_wp2_with fail
  go_ret2
  exact ⟨rfl, B1.out⟩
theorem ParseUint16_range (l : List UInt8) (hl : l.length ≤ 1099511627776) (hb : badL 16 l = false) (hv : ¬ valL 16 l < 18446744073709551616) (w : World) (hT : ErrT w) :
    Calls Tryz.prog 101 #[.string (strOf l), .int .i64 16, .int .i64 64] w fun e w' => ∃ N, e = .returned (.tuple #[.int .u64 18446744073709551615, .iface 138 (.pointer (some ⟨N, 0, none⟩))]) ∧ Below w.heap.size w w' := by
  have C := Lib.hid (fun W => inner_ParseUint16 l (not_bad hb).1 hl (not_bad hb).2 W)
  have e : pu16 l = .tuple #[.int .u64 18446744073709551615, .iface 137 (.int .i64 1)] := by unfold pu16; rw [if_neg hv]
  rw [e] at C
  obtain ⟨ev, hc, hev⟩ := hT
  have HE := Lib.hid (fun W hW => Tryz.strconv_toError_range { data := #[80, 97, 114, 115, 101, 85, 105, 110, 116] } (strOf l) 16 64 ev W (by rw [strOf_size]; omega) hW hev)
  have HC := Lib.hid hc
  clear hb hv hl e hc hev
  go_enter Tryz.func101, Tryz.ntmps101
  go_wp2_with fail
  refine (C.out _).mono ?_
  rintro e w1 ⟨rfl, b1⟩
  have B1 := Lib.hid b1
  have HC1 := Lib.hid (Lib.Below.cellOf b1 HC.out (Nat.le_refl _))
  clear b1
  go_wp2_with fail
  refine (HE.out _ HC1.out).mono ?_
  rintro e w2 ⟨N, rfl, hN, hg, b2⟩
  have B2 := Lib.hid (below_both B1.out b2)
  clear b2 hN hg
  go_wp2_with fail
  go_ret2
  exact ⟨N, rfl, B2.out⟩
theorem bytesWorld_of {w w' : World} (h : w' = w ∨ ∃ t, w' = Lib.bytesWorld w 5 t) : Below w.heap.size w w' := by
  rcases h with rfl | ⟨t, rfl⟩
  · exact Below.refl _ _
  · exact Lib.bytesWorld_below _ _ _
theorem digI10 {c : Nat} (h : 0 ≤ digI 10 c) : 48 ≤ c ∧ c ≤ 57 ∧ (digI 10 c).toNat = c - 48 := by
  unfold digI at h ⊢
  split at h
  · rename_i h2; rw [if_pos h2]; omega
  · rw [if_neg (by omega)] at h; omega
theorem parseUintM_val (M : Nat) (hM : M ≤ 18446744073709551615) (l : List UInt8) (hd : ∀ c ∈ l, 0 ≤ digI 10 c.toNat) (acc : Nat) (ha : acc ≤ M) :
    Lib.parseUintM M acc l = if l.foldl (fun x c => 10 * x + (digI 10 c.toNat).toNat) acc ≤ M then .ok (l.foldl (fun x c => 10 * x + (digI 10 c.toNat).toNat) acc) else .range := by
  induction l generalizing acc with
  | nil => simp [Lib.parseUintM, ha]
  | cons c r ih =>
    obtain ⟨h1, h2, h3⟩ := digI10 (hd c (by simp))
    have hmono : ∀ (r : List UInt8) (a b : Nat), a ≤ b → a ≤ r.foldl (fun x c => 10 * x + (digI 10 c.toNat).toNat) b := by
      intro r
      induction r with
      | nil => intro a b h; simpa using h
      | cons d r ih2 => intro a b h; exact ih2 a (10 * b + (digI 10 d.toNat).toNat) (by omega)
    have hge := hmono r (10 * acc + (c.toNat - 48)) (10 * acc + (c.toNat - 48)) (Nat.le_refl _)
    rw [Lib.parseUintM, if_pos ⟨h1, h2⟩, List.foldl_cons, h3]
    by_cases hc : 1844674407370955162 ≤ acc
    · rw [if_pos hc, if_neg (by omega)]
    · rw [if_neg hc]
      by_cases h4 : M < acc * 10 + (c.toNat - 48)
      · rw [if_pos h4, if_neg (by omega)]
      · rw [if_neg h4, ih (fun c hc => hd c (by simp [hc])) _ (by omega), Nat.mul_comm acc 10]
theorem parseUintB_val {l : List UInt8} (hb : badL 10 l = false) : Lib.parseUintB 64 l = if valL 10 l < 18446744073709551616 then .ok (valL 10 l) else .range := by
  unfold Lib.parseUintB
  rw [if_neg (not_bad hb).1, parseUintM_val _ (by decide) l (not_bad hb).2 0 (by decide)]
  unfold valL
  by_cases h : l.foldl (fun x c => 10 * x + (digI 10 c.toNat).toNat) 0 < 18446744073709551616
  · rw [if_pos h, if_pos (by omega)]
  · rw [if_neg h, if_neg (by omega)]
theorem ParseUint10_ok (l : List UInt8) (hl : l.length ≤ 1099511627776) (hb : badL 10 l = false) (hv : valL 10 l < 18446744073709551616) (w : World) :
    Calls Tryz.prog 101 #[.string (strOf l), .int .i64 10, .int .i64 64] w fun e w' => e = .returned (.tuple #[.int .u64 (valL 10 l : Int), .nilIface]) ∧ Below w.heap.size w w' := by
  refine (Tryz.strconv_ParseUint_10_at64_ok (strOf l) (by rw [strOf_size]; omega) (valL 10 l) (by show Lib.parseUintB 64 l = _; rw [parseUintB_val hb, if_pos hv]) w).mono ?_
  rintro e w' ⟨rfl, h⟩
  exact ⟨rfl, bytesWorld_of (by rcases h with h | h; exact .inl h; exact .inr ⟨_, h⟩)⟩
theorem ParseUint10_range (l : List UInt8) (hl : l.length ≤ 1099511627776) (hb : badL 10 l = false) (hv : ¬ valL 10 l < 18446744073709551616) (w : World) (hT : ErrT w) :
    Calls Tryz.prog 101 #[.string (strOf l), .int .i64 10, .int .i64 64] w fun e w' => ∃ N, e = .returned (.tuple #[.int .u64 18446744073709551615, .iface 138 (.pointer (some ⟨N, 0, none⟩))]) ∧ Below w.heap.size w w' := by
  obtain ⟨ev, hc, hev⟩ := hT
  refine (Tryz.strconv_ParseUint_10_at64_range (strOf l) (by rw [strOf_size]; omega) (by show Lib.parseUintB 64 l = _; rw [parseUintB_val hb, if_neg hv]) ev w hc hev).mono ?_
  rintro e w' ⟨N, rfl, _, _, h⟩
  exact ⟨N, rfl, h⟩
end Go.Proofs.Sat
