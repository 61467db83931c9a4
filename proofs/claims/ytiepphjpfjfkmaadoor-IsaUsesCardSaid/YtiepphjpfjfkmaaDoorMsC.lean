/- Names and prices: isa and the reference. -/
import Derived.Test.YtiepphjpfjfkmaaDoorMsB
import Derived.Test.YtiepphjpfjfkmaaDoorR8C
set_option linter.unusedVariables false
set_option linter.unusedSimpArgs false
namespace Go.Proofs.Sat
open Go Go.RowKit
/-- The names lie in the table. -/
structure NamT (w : World) : Prop where
  nm : ∀ k, k < 20 → w.cell? ⟨0, k * 2, none⟩ = some (.string (strOf (nameT.getD k [])))
theorem NamT.below {w w' : World} (h : NamT w) (hb : Below w.heap.size w w') : NamT w' := ⟨fun k hk => by
  have h1 := h.nm k hk
  exact (World.cell?_of_block (hb.block _ (World.block_lt_of_cell? _ _ h1))).trans h1⟩
theorem NamT.drawn {w w' : World} (h : NamT w) (hb : Drawn w w') : NamT w' := h.below (hb.below _)
theorem nameL_none {op : Int} (h : knownI op = false) : nameL op = [] := by unfold nameL; rw [h]; rfl
theorem nameL_some {k : Nat} (h : knownI (k : Int) = true) : nameL (k : Int) = nameT.getD k [] := by unfold nameL; rw [h, if_pos rfl, Int.toNat_natCast]
set_option maxHeartbeats 400000 in
theorem isa_Name (op : Int) (w : World) (hN : NamT w) : Calls Tryd.prog 39 #[.int .i64 op] w fun e w' => e = .returned (.string (strOf (nameL op))) ∧ Drawn w w' := by
  have CK := Lib.hid (isa_known op)
  cases hk : knownI op
  · rw [nameL_none hk]
    rw [hk] at CK
    clear hN hk
    go_enter Tryd.func39, Tryd.ntmps39
    go_wp2_with fail
    refine (CK.out _).mono ?_
    rintro e w1 ⟨rfl, d1⟩
    have D1 := Lib.hid d1
    clear d1
    go_wp2_with fail
    go_ret
    exact ⟨rfl, D1.out⟩
  · have hb := (knownI_iff op).1 hk
    obtain ⟨k, rfl⟩ := Int.eq_ofNat_of_zero_le hb.1
    have hk20 : k < 20 := by omega
    rw [nameL_some hk]
    rw [hk] at CK
    have HNM := Lib.hid (hN.nm k hk20)
    generalize nameT.getD k [] = nm at *
    clear hN hk hb
    go_enter Tryd.func39, Tryd.ntmps39
    go_wp2_with fail
    refine (CK.out _).mono ?_
    rintro e w1 ⟨rfl, d1⟩
    have D1 := Lib.hid d1
    have hc := d1.cell HNM.out
    clear d1
    go_wp2_with fail
    go_ret
    exact ⟨rfl, D1.out⟩
/-- Is it the name of operation k? -/
theorem isa_Of1 (g : Nat) (l nm : List UInt8) (n : Int) (w : World) (hs : w.cell? ⟨g, 0, none⟩ = some (.string (strOf l))) (r : Bool) (hr : (nm == l) = r) :
    Calls Tryd.prog 25 #[.agg #[.string (strOf nm), .int .i64 n], .pointer (some ⟨g, 0, none⟩)] w fun e w' => e = .returned (.bool r) ∧ Below w.heap.size w w' := by
  have hts := toList_strOf l
  have htn := toList_strOf nm
  have hs2 : ∀ ob, (w.alloc ob).cell? ⟨g, 0, none⟩ = some (.string (strOf l)) := fun ob => Lib.Below.cellOf ((Below.refl w.heap.size w).alloc (Nat.le_refl _) ob) hs (Nat.le_refl _)
  clear hs
  go_enter Tryd.func25, Tryd.ntmps25
  go_wp2_with fail
  go_ret
  exact ⟨rfl, (Below.refl _ _).alloc (Nat.le_refl _) _⟩
theorem ofI_at {l : List UInt8} {k : Nat} (hk : k < 20) (h : nameT.getD k [] = l) (hb : ∀ j, j < k → nameT.getD j [] ≠ l) : ofI l = k := by
  have hl : k < nameT.length := hk
  have e : nameT.findIdx (fun x => x == l) = k := by
    rw [List.findIdx_eq hl]
    refine ⟨?_, fun j hj => ?_⟩
    · rw [List.getD_eq_getElem?_getD, List.getElem?_eq_getElem hl] at h
      simpa using h
    · have := hb j hj
      rw [List.getD_eq_getElem?_getD, List.getElem?_eq_getElem (by omega)] at this
      simpa using this
  unfold ofI
  rw [e, if_pos hk]
theorem ofI_none {l : List UInt8} (h : ∀ j, j < 20 → nameT.getD j [] ≠ l) : ofI l = -1 := by
  unfold ofI
  rw [if_neg]
  intro hlt
  have hl : nameT.findIdx (fun x => x == l) < nameT.length := hlt
  have he := List.findIdx_getElem (w := hl)
  refine h _ hlt ?_
  rw [List.getD_eq_getElem?_getD, List.getElem?_eq_getElem hl]
  simpa using he
set_option maxRecDepth 20000 in
set_option maxHeartbeats 1000000 in
theorem index_of (g : Nat) (l : List UInt8) (w : World) (hN : NamT w) (hK : IsaT w) (hs : w.cell? ⟨g, 0, none⟩ = some (.string (strOf l))) :
    Calls Tryd.prog 24 #[.slice (some ⟨0, 0, none⟩) 20 20, .func (.func 25) #[] #[.pointer (some ⟨g, 0, none⟩)]] w fun e w' => e = .returned (.int .i64 (ofI l)) ∧ Below w.heap.size w w' := by
  have HN := Lib.hid hN
  have HK := Lib.hid hK
  have HS := Lib.hid hs
  clear hN hK hs
  go_enter Tryd.func24, Tryd.ntmps24
  go_wp2_with fail
  go_loopw [8] (fun i wr => ∃ k : Nat, k ≤ 20 ∧ i = .int .i64 k ∧ Hid (∀ j, j < k → nameT.getD j [] ≠ l) ∧ Hid (Below w.heap.size w wr)) (fun i _ => 20 - (intOf i).toNat)
  case atStart => exact ⟨0, by omega, rfl, fun j h => by omega, by first | exact Below.refl _ _ | exact (Drawn.of _ _).below _⟩
  case round =>
    obtain ⟨k, hk, rfl, HV, HB⟩ := hrel
    by_cases hlt : k < 20
    · have hkl : (k : Int) < 20 := by omega
      have d0 := (HN.out.below HB.out).nm k hlt
      have d1 := (HK.out.below HB.out).src k hlt
      have HS1 := Lib.hid (Lib.Below.cellOf HB.out HS.out (Nat.le_refl _))
      have HV2 := Lib.hid (fun (hq : nameT.getD k [] ≠ l) j (hj : j < k + 1) => show nameT.getD j [] ≠ l from by
        rcases Nat.lt_or_ge j k with h' | h'
        · exact HV.out j h'
        · obtain rfl : j = k := by omega
          exact hq)
      have HE := Lib.hid (fun (hq : nameT.getD k [] = l) => ofI_at hlt hq HV.out)
      generalize nameT.getD k [] = nm at *
      generalize srcN (k : Int) = sn at *
      by_cases hq : nm = l
      · have HE2 := Lib.hid (HE.out hq)
        have CI := Lib.hid (isa_Of1 g l nm sn wr HS1.out true (by rw [hq]; simp))
        clear hq
        go_wp2_with fail
        refine CI.out.mono ?_
        rintro e w2 ⟨rfl, b⟩
        have B2 := Lib.hid (HB.out.trans (b.mono HB.out.size))
        clear b
        go_wp2_with fail
        go_ret
        exact ⟨ret_int HE2.out.symm, B2.out⟩
      · have HV3 := Lib.hid (HV2.out hq)
        have CI := Lib.hid (isa_Of1 g l nm sn wr HS1.out false (by rw [beq_eq_false_iff_ne]; exact hq))
        clear hq
        go_wp2_with fail
        refine CI.out.mono ?_
        rintro e w2 ⟨rfl, b⟩
        have B2 := Lib.hid (HB.out.trans (b.mono HB.out.size))
        clear b
        go_wp2_with fail
        go_roundw
        case rel => exact ⟨k + 1, by omega, by go_num, HV3.out, B2.out⟩
        case measure => simp [intOf]; omega
    · have hnl : ¬ ((k : Int) < 20) := by omega
      have HE := Lib.hid (ofI_none (l := l) (fun j hj => HV.out j (by omega)))
      clear hlt
      go_wp2_with fail
      go_ret
      exact ⟨ret_int HE.out.symm, HB.out⟩
theorem ofI_ge (l : List UInt8) : -1 ≤ ofI l ∧ ofI l < 20 := by unfold ofI; split <;> omega
/-- What Of answers. -/
def ofD (l : List UInt8) : Int := if 0 ≤ ofI l then ofI l else 0
set_option maxHeartbeats 400000 in
theorem isa_Of (l : List UInt8) (w : World) (hN : NamT w) (hK : IsaT w) : Calls Tryd.prog 16 #[.string (strOf l)] w fun e w' => e = .returned (.tuple #[.int .i64 (ofD l), .bool (decide (0 ≤ ofI l))]) ∧ Below w.heap.size w w' := by
  have hb0 : ∀ ob, Below w.heap.size w (w.alloc ob) := fun ob => (Below.refl _ _).alloc (Nat.le_refl _) _
  have CI := Lib.hid (fun ob => fun h => index_of w.heap.size l (w.alloc ob) (hN.below (hb0 ob)) (hK.below (hb0 ob)) h)
  have HB := Lib.hid hb0
  have hge := ofI_ge l
  have HD : Hid (ofD l = if 0 ≤ ofI l then ofI l else 0) := rfl
  generalize ofD l = dd at *
  generalize ofI l = v at *
  clear hN hK hb0
  have hc : (w.alloc (.cells #[.string (strOf l)] 9)).cell? ⟨w.heap.size, 0, none⟩ = some (.string (strOf l)) := by
    rw [cell_of_row _ _ 0 _ _ _ (heap_alloc_new w _)]; rfl
  have HC := Lib.hid hc
  clear hc
  go_enter Tryd.func16, Tryd.ntmps16
  go_wp2_with fail
  refine (CI.out _ HC.out).mono ?_
  rintro e w2 ⟨rfl, b⟩
  have B2 := Lib.hid (below_both (HB.out _) b)
  clear b
  by_cases h0 : 0 ≤ v
  · have t0 : decide (0 ≤ v) = true := decide_eq_true h0
    have hmx : max v 0 = v := by omega
    have HE : Hid (dd = v) := by show _ = _; rw [HD.out, if_pos h0]
    go_wp2_with fail
    go_ret2
    exact ⟨by rw [HE.out, t0]; rfl, B2.out⟩
  · have t0 : decide (0 ≤ v) = false := decide_eq_false h0
    have HE : Hid (dd = 0) := by show _ = _; rw [HD.out, if_neg h0]
    obtain rfl : v = -1 := by omega
    go_wp2_with fail
    go_ret2
    exact ⟨by rw [HE.out]; rfl, B2.out⟩
def trapsI (op : Int) : Bool := decide (op = 11 ∨ op = 12)
theorem price_ways (op : Int) : (knownI op = true ∧ op = 11 ∧ priceI op = 12) ∨ (knownI op = true ∧ op = 12 ∧ priceI op = 12) ∨ (knownI op = true ∧ op = 10 ∧ priceI op = 3) ∨ (op = 0 ∧ priceI op = 0) ∨ (knownI op = true ∧ op ≠ 0 ∧ op ≠ 10 ∧ op ≠ 11 ∧ op ≠ 12 ∧ priceI op = 1) ∨ (knownI op = false ∧ op ≠ 0 ∧ op ≠ 10 ∧ op ≠ 11 ∧ op ≠ 12 ∧ priceI op = 0) := by
  have hk : knownI op = true ↔ 0 ≤ op ∧ op ≤ 19 := knownI_iff op
  by_cases h11 : op = 11
  · left; subst h11; decide
  · by_cases h12 : op = 12
    · right; left; subst h12; decide
    · by_cases h10 : op = 10
      · right; right; left; subst h10; decide
      · by_cases h0 : op = 0
        · right; right; right; left; subst h0; decide
        · cases hkk : knownI op
          · right; right; right; right; right
            refine ⟨rfl, h0, h10, h11, h12, ?_⟩
            unfold priceI
            rw [if_pos (.inl hkk)]
          · right; right; right; right; left
            refine ⟨rfl, h0, h10, h11, h12, ?_⟩
            unfold priceI
            rw [if_neg (by rw [hkk]; simp [h0]), if_neg h10, if_neg (by omega)]
theorem beqf {a b : Int} (h : a ≠ b) : (a == b) = false := by rw [beq_eq_false_iff_ne]; exact h
theorem bnet {a b : Int} (h : a ≠ b) : (a != b) = true := by rw [bne_iff_ne]; exact h
set_option maxHeartbeats 1000000 in
theorem isa_Price (op : Int) (w : World) : Calls Tryd.prog 26 #[.int .i64 op] w fun e w' => e = .returned (.int .i64 (priceI op)) ∧ Drawn w w' := by
  have CK := Lib.hid (isa_known op)
  rcases price_ways op with ⟨hk, rfl, hp⟩ | ⟨hk, rfl, hp⟩ | ⟨hk, rfl, hp⟩ | ⟨rfl, hp⟩ | ⟨hk, h0, h10, h11, h12, hp⟩ | ⟨hk, h0, h10, h11, h12, hp⟩
  · rw [hk] at CK
    rw [hp]
    clear hk hp
    go_enter Tryd.func26, Tryd.ntmps26
    go_wp2_with fail
    refine (CK.out _).mono ?_
    rintro e w1 ⟨rfl, d1⟩
    have D1 := Lib.hid d1
    clear d1
    go_wp2_with fail
    go_ret
    exact ⟨rfl, D1.out⟩
  · rw [hk] at CK
    rw [hp]
    clear hk hp
    go_enter Tryd.func26, Tryd.ntmps26
    go_wp2_with fail
    refine (CK.out _).mono ?_
    rintro e w1 ⟨rfl, d1⟩
    have D1 := Lib.hid d1
    clear d1
    go_wp2_with fail
    go_ret
    exact ⟨rfl, D1.out⟩
  · rw [hk] at CK
    rw [hp]
    clear hk hp
    go_enter Tryd.func26, Tryd.ntmps26
    go_wp2_with fail
    refine (CK.out _).mono ?_
    rintro e w1 ⟨rfl, d1⟩
    have D1 := Lib.hid d1
    clear d1
    go_wp2_with fail
    go_ret
    exact ⟨rfl, D1.out⟩
  · rw [show knownI 0 = true by decide] at CK
    rw [hp]
    clear hp
    go_enter Tryd.func26, Tryd.ntmps26
    go_wp2_with fail
    refine (CK.out _).mono ?_
    rintro e w1 ⟨rfl, d1⟩
    have D1 := Lib.hid d1
    clear d1
    go_wp2_with fail
    go_ret
    exact ⟨rfl, D1.out⟩
  · rw [hk] at CK
    rw [hp]
    have t0 := beqf h10
    have t1 := beqf h11
    have t2 := beqf h12
    have t3 := bnet h0
    clear hk hp h0 h10 h11 h12
    go_enter Tryd.func26, Tryd.ntmps26
    go_wp2_with fail
    refine (CK.out _).mono ?_
    rintro e w1 ⟨rfl, d1⟩
    have D1 := Lib.hid d1
    clear d1
    go_wp2_with fail
    go_ret
    exact ⟨rfl, D1.out⟩
  · rw [hk] at CK
    rw [hp]
    have t0 := beqf h10
    have t1 := beqf h11
    have t2 := beqf h12
    clear hk hp h0 h10 h11 h12
    go_enter Tryd.func26, Tryd.ntmps26
    go_wp2_with fail
    refine (CK.out _).mono ?_
    rintro e w1 ⟨rfl, d1⟩
    have D1 := Lib.hid d1
    clear d1
    go_wp2_with fail
    go_ret
    exact ⟨rfl, D1.out⟩
theorem price_le (op : Int) : 0 ≤ priceI op ∧ priceI op ≤ 12 := by unfold priceI; split; omega; split; omega; split <;> omega
theorem cost_snoc (l : List In) (x : In) : costI (l ++ [x]) = costI l + priceI x.op := by unfold costI; simp
theorem cost_le (l : List In) : 0 ≤ costI l ∧ costI l ≤ 12 * l.length := by
  induction l with
  | nil => simp [costI]
  | cons x l ih =>
    have := price_le x.op
    have e : costI (x :: l) = priceI x.op + costI l := by unfold costI; simp
    rw [e, List.length_cons]
    omega
end Go.Proofs.Sat
