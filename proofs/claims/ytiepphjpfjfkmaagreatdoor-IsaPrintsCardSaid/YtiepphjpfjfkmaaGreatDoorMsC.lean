/- Names and prices: isa and the reference. -/
import Derived.Test.YtiepphjpfjfkmaaGreatDoorMsB
import Derived.Test.YtiepphjpfjfkmaaGreatDoorR8C
set_option linter.unusedVariables false
set_option linter.unusedSimpArgs false
namespace Go.Proofs.Sat
open Go Go.RowKit
/-- The names lie in the table. -/
structure NamT (w : World) : Prop where
  nm : ∀ k, k < 20 → w.cell? ⟨0, k * 2, none⟩ = some (.string (strOf (nameT.getD k [])))
theorem NamT.below {w w' : World} (h : NamT w) (hb : Below w.heap.size w w') : NamT w' := ⟨fun k hk => by
  have h1 := h.nm k hk
  exact (World.cell?_of_block (hb.block _ (World.block_lt_of_cell? _ _ h1))).trans h1⟩
theorem NamT.drawn {w w' : World} (h : NamT w) (hb : Drawn w w') : NamT w' := h.below (hb.below _)
theorem nameL_none {op : Int} (h : knownI op = false) : nameL op = [] := by unfold nameL; rw [h]; rfl
theorem nameL_some {k : Nat} (h : knownI (k : Int) = true) : nameL (k : Int) = nameT.getD k [] := by unfold nameL; rw [h, if_pos rfl, Int.toNat_natCast]
set_option maxHeartbeats 400000 in
theorem isa_Name (op : Int) (w : World) (hN : NamT w) : Calls Tryz.prog 20 #[.int .i64 op] w fun e w' => e = .returned (.string (strOf (nameL op))) ∧ Drawn w w' := by
  have CK := Lib.hid (isa_known op)
  cases hk : knownI op
  · rw [nameL_none hk]
    rw [hk] at CK
    clear hN hk
    go_enter Tryz.func20, Tryz.ntmps20
    go_wp2_with fail
    refine (CK.out _).mono ?_
    rintro e w1 ⟨rfl, d1⟩
    have D1 := Lib.hid d1
    clear d1
    go_wp2_with fail
    go_ret
    exact ⟨rfl, D1.out⟩
  · have hb := (knownI_iff op).1 hk
    obtain ⟨k, rfl⟩ := Int.eq_ofNat_of_zero_le hb.1
    have hk20 : k < 20 := by omega
    rw [nameL_some hk]
    rw [hk] at CK
    have HNM := Lib.hid (hN.nm k hk20)
    generalize nameT.getD k [] = nm at *
    clear hN hk hb
    go_enter Tryz.func20, Tryz.ntmps20
    go_wp2_with fail
    refine (CK.out _).mono ?_
    rintro e w1 ⟨rfl, d1⟩
    have D1 := Lib.hid d1
    have hc := d1.cell HNM.out
    clear d1
    go_wp2_with fail
    go_ret
    exact ⟨rfl, D1.out⟩
set_option maxHeartbeats 1000000 in
theorem ref48_Name (op : Int) (w : World) : Calls Tryz.prog 22 #[.int .i64 op] w fun e w' => e = .returned (.string (strOf (nameL op))) ∧ Below w.heap.size w w' := by
  have CK := Lib.hid (ref48_Known op)
  cases hk : knownI op
  · rw [nameL_none hk]
    rw [hk] at CK
    clear hk
    go_enter Tryz.func22, Tryz.ntmps22
    go_wp2_with fail
    refine (CK.out _).mono ?_
    rintro e w1 ⟨rfl, d1⟩
    have D1 := Lib.hid (d1.below w.heap.size)
    clear d1
    go_wp2_with fail
    go_ret
    exact ⟨rfl, D1.out⟩
  · have hb := (knownI_iff op).1 hk
    obtain ⟨k, rfl⟩ := Int.eq_ofNat_of_zero_le hb.1
    have hk20 : k < 20 := by omega
    rw [nameL_some hk]
    rw [hk] at CK
    have hcell : ∀ (W : World) (t : TypeId), (W.alloc (.cells ((nameT.map fun x => Value.string (strOf x)).toArray) t)).cell? ⟨W.heap.size, k, none⟩ = some (.string (strOf (nameT.getD k []))) := fun W t => by
      rw [cell_of_row _ _ k _ _ _ (heap_alloc_new W _)]
      have hl : k < nameT.length := hk20
      simp [List.getD_eq_getElem?_getD, hl]
    have HCE : Hid (∀ (W : World), (W.alloc (.cells #[.string { data := #[110, 111, 112] }, .string { data := #[109, 111, 118, 105] }, .string { data := #[109, 111, 118] }, .string { data := #[110, 111, 116] }, .string { data := #[110, 101, 103] }, .string { data := #[97, 110, 100] }, .string { data := #[111, 114] }, .string { data := #[120, 111, 114] }, .string { data := #[97, 100, 100] }, .string { data := #[115, 117, 98] }, .string { data := #[109, 117, 108] }, .string { data := #[100, 105, 118] }, .string { data := #[114, 101, 109] }, .string { data := #[115, 104, 108] }, .string { data := #[115, 104, 114] }, .string { data := #[115, 97, 114] }, .string { data := #[101, 113] }, .string { data := #[117, 108, 116] }, .string { data := #[115, 108, 116] }, .string { data := #[115, 101, 108] }] 9)).cell? ⟨W.heap.size, k, none⟩ = some (.string (strOf (nameT.getD k [])))) := fun W => hcell W _
    generalize nameT.getD k [] = nm at *
    clear hk hb hcell
    go_enter Tryz.func22, Tryz.ntmps22
    go_wp2_with fail
    refine (CK.out _).mono ?_
    rintro e w1 ⟨rfl, d1⟩
    have D1 := Lib.hid (d1.below w.heap.size)
    have hc := HCE.out w1
    clear d1
    go_wp2_with fail
    go_ret
    exact ⟨rfl, D1.out.alloc D1.out.size _⟩
/-- Is it the name of operation k? -/
theorem isa_Of1 (g : Nat) (l nm : List UInt8) (n : Int) (w : World) (hs : w.cell? ⟨g, 0, none⟩ = some (.string (strOf l))) (r : Bool) (hr : (nm == l) = r) :
    Calls Tryz.prog 48 #[.agg #[.string (strOf nm), .int .i64 n], .pointer (some ⟨g, 0, none⟩)] w fun e w' => e = .returned (.bool r) ∧ Below w.heap.size w w' := by
  have hts := toList_strOf l
  have htn := toList_strOf nm
  have hs2 : ∀ ob, (w.alloc ob).cell? ⟨g, 0, none⟩ = some (.string (strOf l)) := fun ob => Lib.Below.cellOf ((Below.refl w.heap.size w).alloc (Nat.le_refl _) ob) hs (Nat.le_refl _)
  clear hs
  go_enter Tryz.func48, Tryz.ntmps48
  go_wp2_with fail
  go_ret
  exact ⟨rfl, (Below.refl _ _).alloc (Nat.le_refl _) _⟩
theorem ofI_at {l : List UInt8} {k : Nat} (hk : k < 20) (h : nameT.getD k [] = l) (hb : ∀ j, j < k → nameT.getD j [] ≠ l) : ofI l = k := by
  have hl : k < nameT.length := hk
  have e : nameT.findIdx (fun x => x == l) = k := by
    rw [List.findIdx_eq hl]
    refine ⟨?_, fun j hj => ?_⟩
    · rw [List.getD_eq_getElem?_getD, List.getElem?_eq_getElem hl] at h
      simpa using h
    · have := hb j hj
      rw [List.getD_eq_getElem?_getD, List.getElem?_eq_getElem (by omega)] at this
      simpa using this
  unfold ofI
  rw [e, if_pos hk]
theorem ofI_none {l : List UInt8} (h : ∀ j, j < 20 → nameT.getD j [] ≠ l) : ofI l = -1 := by
  unfold ofI
  rw [if_neg]
  intro hlt
  have hl : nameT.findIdx (fun x => x == l) < nameT.length := hlt
  have he := List.findIdx_getElem (w := hl)
  refine h _ hlt ?_
  rw [List.getD_eq_getElem?_getD, List.getElem?_eq_getElem hl]
  simpa using he
set_option maxRecDepth 20000 in
set_option maxHeartbeats 1000000 in
theorem index_of (g : Nat) (l : List UInt8) (w : World) (hN : NamT w) (hK : IsaT w) (hs : w.cell? ⟨g, 0, none⟩ = some (.string (strOf l))) :
    Calls Tryz.prog 47 #[.slice (some ⟨0, 0, none⟩) 20 20, .func (.func 48) #[] #[.pointer (some ⟨g, 0, none⟩)]] w fun e w' => e = .returned (.int .i64 (ofI l)) ∧ Below w.heap.size w w' := by
  have HN := Lib.hid hN
  have HK := Lib.hid hK
  have HS := Lib.hid hs
  clear hN hK hs
  go_enter Tryz.func47, Tryz.ntmps47
  go_wp2_with fail
  go_loopw [8] (fun i wr => ∃ k : Nat, k ≤ 20 ∧ i = .int .i64 k ∧ Hid (∀ j, j < k → nameT.getD j [] ≠ l) ∧ Hid (Below w.heap.size w wr)) (fun i _ => 20 - (intOf i).toNat)
  case atStart => exact ⟨0, by omega, rfl, fun j h => by omega, by first | exact Below.refl _ _ | exact (Drawn.of _ _).below _⟩
  case round =>
    obtain ⟨k, hk, rfl, HV, HB⟩ := hrel
    by_cases hlt : k < 20
    · have hkl : (k : Int) < 20 := by omega
      have d0 := (HN.out.below HB.out).nm k hlt
      have d1 := (HK.out.below HB.out).src k hlt
      have HS1 := Lib.hid (Lib.Below.cellOf HB.out HS.out (Nat.le_refl _))
      have HV2 := Lib.hid (fun (hq : nameT.getD k [] ≠ l) j (hj : j < k + 1) => show nameT.getD j [] ≠ l from by
        rcases Nat.lt_or_ge j k with h' | h'
        · exact HV.out j h'
        · obtain rfl : j = k := by omega
          exact hq)
      have HE := Lib.hid (fun (hq : nameT.getD k [] = l) => ofI_at hlt hq HV.out)
      generalize nameT.getD k [] = nm at *
      generalize srcN (k : Int) = sn at *
      by_cases hq : nm = l
      · have HE2 := Lib.hid (HE.out hq)
        have CI := Lib.hid (isa_Of1 g l nm sn wr HS1.out true (by rw [hq]; simp))
        clear hq
        go_wp2_with fail
        refine CI.out.mono ?_
        rintro e w2 ⟨rfl, b⟩
        have B2 := Lib.hid (HB.out.trans (b.mono HB.out.size))
        clear b
        go_wp2_with fail
        go_ret
        exact ⟨ret_int HE2.out.symm, B2.out⟩
      · have HV3 := Lib.hid (HV2.out hq)
        have CI := Lib.hid (isa_Of1 g l nm sn wr HS1.out false (by rw [beq_eq_false_iff_ne]; exact hq))
        clear hq
        go_wp2_with fail
        refine CI.out.mono ?_
        rintro e w2 ⟨rfl, b⟩
        have B2 := Lib.hid (HB.out.trans (b.mono HB.out.size))
        clear b
        go_wp2_with fail
        go_roundw
        case rel => exact ⟨k + 1, by omega, by go_num, HV3.out, B2.out⟩
        case measure => simp [intOf]; omega
    · have hnl : ¬ ((k : Int) < 20) := by omega
      have HE := Lib.hid (ofI_none (l := l) (fun j hj => HV.out j (by omega)))
      clear hlt
      go_wp2_with fail
      go_ret
      exact ⟨ret_int HE.out.symm, HB.out⟩
theorem ofI_ge (l : List UInt8) : -1 ≤ ofI l ∧ ofI l < 20 := by unfold ofI; split <;> omega
/-- What Of answers. -/
def ofD (l : List UInt8) : Int := if 0 ≤ ofI l then ofI l else 0
set_option maxHeartbeats 400000 in
theorem isa_Of (l : List UInt8) (w : World) (hN : NamT w) (hK : IsaT w) : Calls Tryz.prog 18 #[.string (strOf l)] w fun e w' => e = .returned (.tuple #[.int .i64 (ofD l), .bool (decide (0 ≤ ofI l))]) ∧ Below w.heap.size w w' := by
  have hb0 : ∀ ob, Below w.heap.size w (w.alloc ob) := fun ob => (Below.refl _ _).alloc (Nat.le_refl _) _
  have CI := Lib.hid (fun ob => fun h => index_of w.heap.size l (w.alloc ob) (hN.below (hb0 ob)) (hK.below (hb0 ob)) h)
  have HB := Lib.hid hb0
  have hge := ofI_ge l
  have HD : Hid (ofD l = if 0 ≤ ofI l then ofI l else 0) := rfl
  generalize ofD l = dd at *
  generalize ofI l = v at *
  clear hN hK hb0
  have hc : (w.alloc (.cells #[.string (strOf l)] 9)).cell? ⟨w.heap.size, 0, none⟩ = some (.string (strOf l)) := by
    rw [cell_of_row _ _ 0 _ _ _ (heap_alloc_new w _)]; rfl
  have HC := Lib.hid hc
  clear hc
  go_enter Tryz.func18, Tryz.ntmps18
  go_wp2_with fail
  refine (CI.out _ HC.out).mono ?_
  rintro e w2 ⟨rfl, b⟩
  have B2 := Lib.hid (below_both (HB.out _) b)
  clear b
  by_cases h0 : 0 ≤ v
  · have t0 : decide (0 ≤ v) = true := decide_eq_true h0
    have hmx : max v 0 = v := by omega
    have HE : Hid (dd = v) := by show _ = _; rw [HD.out, if_pos h0]
    go_wp2_with fail
    go_ret2
    exact ⟨by rw [HE.out, t0]; rfl, B2.out⟩
  · have t0 : decide (0 ≤ v) = false := decide_eq_false h0
    have HE : Hid (dd = 0) := by show _ = _; rw [HD.out, if_neg h0]
    obtain rfl : v = -1 := by omega
    go_wp2_with fail
    go_ret2
    exact ⟨by rw [HE.out]; rfl, B2.out⟩
set_option maxRecDepth 20000 in
set_option maxHeartbeats 1000000 in
theorem ref48_Of (l : List UInt8) (w : World) : Calls Tryz.prog 19 #[.string (strOf l)] w fun e w' => e = .returned (.tuple #[.int .i64 (ofD l), .bool (decide (0 ≤ ofI l))]) ∧ Below w.heap.size w w' := by
  have hts := toList_strOf l
  go_enter Tryz.func19, Tryz.ntmps19
  go_wp2_with fail
  go_loopw [4] (fun i wr => ∃ k : Nat, k ≤ 20 ∧ i = .int .i64 k ∧ Hid (∀ j, j < k → nameT.getD j [] ≠ l) ∧ Hid (Below w.heap.size w wr)) (fun i _ => 20 - (intOf i).toNat)
  case atStart => exact ⟨0, by omega, rfl, fun j h => by omega, by first | exact Below.refl _ _ | exact (Drawn.of _ _).below _⟩
  case round =>
    obtain ⟨k, hk, rfl, HV, HB⟩ := hrel
    by_cases hlt : k < 20
    · have hkl : (k : Int) ≤ 19 := by omega
      have CN := Lib.hid (fun W => ref48_Name (k : Int) W)
      rw [nameL_some (by unfold knownI; exact decide_eq_true (by omega))] at CN
      have HV2 := Lib.hid (fun (hq : nameT.getD k [] ≠ l) j (hj : j < k + 1) => show nameT.getD j [] ≠ l from by
        rcases Nat.lt_or_ge j k with h' | h'
        · exact HV.out j h'
        · obtain rfl : j = k := by omega
          exact hq)
      have HE := Lib.hid (fun (hq : nameT.getD k [] = l) => show ofI l = (k : Int) from ofI_at hlt hq HV.out)
      have htn := toList_strOf (nameT.getD k [])
      generalize nameT.getD k [] = nm at *
      by_cases hq : nm = l
      · have HE2 : Hid (ofD l = (k : Int) ∧ decide (0 ≤ ofI l) = true) := by
          have h := HE.out hq
          exact ⟨by unfold ofD; rw [h, if_pos (by omega)], by rw [h]; exact decide_eq_true (by omega)⟩
        have t1 : (nm == l) = true := by rw [hq]; simp
        clear hq
        go_wp2_with fail
        refine (CN.out _).mono ?_
        rintro e w2 ⟨rfl, b⟩
        have B2 := Lib.hid (HB.out.trans (b.mono HB.out.size))
        clear b
        go_wp2_with fail
        go_ret2
        exact ⟨by rw [HE2.out.1, HE2.out.2]; rfl, B2.out⟩
      · have HV3 := Lib.hid (HV2.out hq)
        have t1 : (nm == l) = false := by rw [beq_eq_false_iff_ne]; exact hq
        clear hq
        go_wp2_with fail
        refine (CN.out _).mono ?_
        rintro e w2 ⟨rfl, b⟩
        have B2 := Lib.hid (HB.out.trans (b.mono HB.out.size))
        clear b
        go_wp2_with fail
        go_roundw
        case rel => exact ⟨k + 1, by omega, by go_num, HV3.out, B2.out⟩
        case measure => simp [intOf]; omega
    · have hnl : ¬ ((k : Int) ≤ 19) := by omega
      have HE : Hid (ofD l = 0 ∧ decide (0 ≤ ofI l) = false) := by
        have h := ofI_none (l := l) (fun j hj => HV.out j (by omega))
        exact ⟨by unfold ofD; rw [h]; rfl, by rw [h]; rfl⟩
      clear hlt
      go_wp2_with fail
      go_ret2
      exact ⟨by rw [HE.out.1, HE.out.2]; rfl, HB.out⟩
/-! ### Traps, prices, costs -/
def trapsI (op : Int) : Bool := decide (op = 11 ∨ op = 12)
theorem isa_Traps (op : Int) (w : World) : Calls Tryz.prog 25 #[.int .i64 op] w fun e w' => e = .returned (.bool (trapsI op)) ∧ Drawn w w' := by
  have hw : (trapsI op = true ∧ ((op == 11) = true ∨ ((op == 11) = false ∧ (op == 12) = true))) ∨ (trapsI op = false ∧ (op == 11) = false ∧ (op == 12) = false) := by
    unfold trapsI
    by_cases h1 : op = 11
    · left; exact ⟨decide_eq_true (.inl h1), .inl (by rw [h1]; rfl)⟩
    · by_cases h2 : op = 12
      · left; exact ⟨decide_eq_true (.inr h2), .inr ⟨by rw [beq_eq_false_iff_ne]; exact h1, by rw [h2]; rfl⟩⟩
      · right; exact ⟨decide_eq_false (by omega), by rw [beq_eq_false_iff_ne]; exact h1, by rw [beq_eq_false_iff_ne]; exact h2⟩
  rcases hw with ⟨hE, h1 | ⟨h1, h2⟩⟩ | ⟨hE, h1, h2⟩
  all_goals
    rw [hE]
    clear hE
    go_enter Tryz.func25, Tryz.ntmps25
    go_wp2_with fail
    go_ret
    exact ⟨rfl, Drawn.refl _⟩
theorem ref48_Traps (op : Int) (w : World) : Calls Tryz.prog 26 #[.int .i64 op] w fun e w' => e = .returned (.bool (trapsI op)) ∧ Drawn w w' := by
  have hw : (trapsI op = true ∧ ((op == 11) = true ∨ ((op == 11) = false ∧ (op == 12) = true))) ∨ (trapsI op = false ∧ (op == 11) = false ∧ (op == 12) = false) := by
    unfold trapsI
    by_cases h1 : op = 11
    · left; exact ⟨decide_eq_true (.inl h1), .inl (by rw [h1]; rfl)⟩
    · by_cases h2 : op = 12
      · left; exact ⟨decide_eq_true (.inr h2), .inr ⟨by rw [beq_eq_false_iff_ne]; exact h1, by rw [h2]; rfl⟩⟩
      · right; exact ⟨decide_eq_false (by omega), by rw [beq_eq_false_iff_ne]; exact h1, by rw [beq_eq_false_iff_ne]; exact h2⟩
  rcases hw with ⟨hE, h1 | ⟨h1, h2⟩⟩ | ⟨hE, h1, h2⟩
  all_goals
    rw [hE]
    clear hE
    go_enter Tryz.func26, Tryz.ntmps26
    go_wp2_with fail
    go_ret
    exact ⟨rfl, Drawn.refl _⟩
theorem price_ways (op : Int) : (knownI op = true ∧ op = 11 ∧ priceI op = 12) ∨ (knownI op = true ∧ op = 12 ∧ priceI op = 12) ∨ (knownI op = true ∧ op = 10 ∧ priceI op = 3) ∨ (op = 0 ∧ priceI op = 0) ∨ (knownI op = true ∧ op ≠ 0 ∧ op ≠ 10 ∧ op ≠ 11 ∧ op ≠ 12 ∧ priceI op = 1) ∨ (knownI op = false ∧ op ≠ 0 ∧ op ≠ 10 ∧ op ≠ 11 ∧ op ≠ 12 ∧ priceI op = 0) := by
  have hk : knownI op = true ↔ 0 ≤ op ∧ op ≤ 19 := knownI_iff op
  by_cases h11 : op = 11
  · left; subst h11; decide
  · by_cases h12 : op = 12
    · right; left; subst h12; decide
    · by_cases h10 : op = 10
      · right; right; left; subst h10; decide
      · by_cases h0 : op = 0
        · right; right; right; left; subst h0; decide
        · cases hkk : knownI op
          · right; right; right; right; right
            refine ⟨rfl, h0, h10, h11, h12, ?_⟩
            unfold priceI
            rw [if_pos (.inl hkk)]
          · right; right; right; right; left
            refine ⟨rfl, h0, h10, h11, h12, ?_⟩
            unfold priceI
            rw [if_neg (by rw [hkk]; simp [h0]), if_neg h10, if_neg (by omega)]
theorem beqf {a b : Int} (h : a ≠ b) : (a == b) = false := by rw [beq_eq_false_iff_ne]; exact h
theorem bnet {a b : Int} (h : a ≠ b) : (a != b) = true := by rw [bne_iff_ne]; exact h
set_option maxHeartbeats 1000000 in
theorem isa_Price (op : Int) (w : World) : Calls Tryz.prog 27 #[.int .i64 op] w fun e w' => e = .returned (.int .i64 (priceI op)) ∧ Drawn w w' := by
  have CK := Lib.hid (isa_known op)
  rcases price_ways op with ⟨hk, rfl, hp⟩ | ⟨hk, rfl, hp⟩ | ⟨hk, rfl, hp⟩ | ⟨rfl, hp⟩ | ⟨hk, h0, h10, h11, h12, hp⟩ | ⟨hk, h0, h10, h11, h12, hp⟩
  · rw [hk] at CK
    rw [hp]
    clear hk hp
    go_enter Tryz.func27, Tryz.ntmps27
    go_wp2_with fail
    refine (CK.out _).mono ?_
    rintro e w1 ⟨rfl, d1⟩
    have D1 := Lib.hid d1
    clear d1
    go_wp2_with fail
    go_ret
    exact ⟨rfl, D1.out⟩
  · rw [hk] at CK
    rw [hp]
    clear hk hp
    go_enter Tryz.func27, Tryz.ntmps27
    go_wp2_with fail
    refine (CK.out _).mono ?_
    rintro e w1 ⟨rfl, d1⟩
    have D1 := Lib.hid d1
    clear d1
    go_wp2_with fail
    go_ret
    exact ⟨rfl, D1.out⟩
  · rw [hk] at CK
    rw [hp]
    clear hk hp
    go_enter Tryz.func27, Tryz.ntmps27
    go_wp2_with fail
    refine (CK.out _).mono ?_
    rintro e w1 ⟨rfl, d1⟩
    have D1 := Lib.hid d1
    clear d1
    go_wp2_with fail
    go_ret
    exact ⟨rfl, D1.out⟩
  · rw [show knownI 0 = true by decide] at CK
    rw [hp]
    clear hp
    go_enter Tryz.func27, Tryz.ntmps27
    go_wp2_with fail
    refine (CK.out _).mono ?_
    rintro e w1 ⟨rfl, d1⟩
    have D1 := Lib.hid d1
    clear d1
    go_wp2_with fail
    go_ret
    exact ⟨rfl, D1.out⟩
  · rw [hk] at CK
    rw [hp]
    have t0 := beqf h10
    have t1 := beqf h11
    have t2 := beqf h12
    have t3 := bnet h0
    clear hk hp h0 h10 h11 h12
    go_enter Tryz.func27, Tryz.ntmps27
    go_wp2_with fail
    refine (CK.out _).mono ?_
    rintro e w1 ⟨rfl, d1⟩
    have D1 := Lib.hid d1
    clear d1
    go_wp2_with fail
    go_ret
    exact ⟨rfl, D1.out⟩
  · rw [hk] at CK
    rw [hp]
    have t0 := beqf h10
    have t1 := beqf h11
    have t2 := beqf h12
    clear hk hp h0 h10 h11 h12
    go_enter Tryz.func27, Tryz.ntmps27
    go_wp2_with fail
    refine (CK.out _).mono ?_
    rintro e w1 ⟨rfl, d1⟩
    have D1 := Lib.hid d1
    clear d1
    go_wp2_with fail
    go_ret
    exact ⟨rfl, D1.out⟩
set_option maxHeartbeats 1000000 in
theorem ref48_Price (op : Int) (w : World) : Calls Tryz.prog 28 #[.int .i64 op] w fun e w' => e = .returned (.int .i64 (priceI op)) ∧ Drawn w w' := by
  have CK := Lib.hid (ref48_Known op)
  have CT := Lib.hid (ref48_Traps op)
  rcases price_ways op with ⟨hk, rfl, hp⟩ | ⟨hk, rfl, hp⟩ | ⟨hk, rfl, hp⟩ | ⟨rfl, hp⟩ | ⟨hk, h0, h10, h11, h12, hp⟩ | ⟨hk, h0, h10, h11, h12, hp⟩
  · rw [hk] at CK
    rw [show trapsI 11 = true by decide] at CT
    rw [hp]
    clear hk hp
    go_enter Tryz.func28, Tryz.ntmps28
    go_wp2_with fail
    refine (CK.out _).mono ?_
    rintro e w1 ⟨rfl, d1⟩
    have D1 := Lib.hid d1
    clear d1
    go_wp2_with fail
    refine (CT.out _).mono ?_
    rintro e w2 ⟨rfl, d2⟩
    have D2 := Lib.hid (D1.out.trans d2)
    clear d2
    go_wp2_with fail
    go_ret
    exact ⟨rfl, D2.out⟩
  · rw [hk] at CK
    rw [show trapsI 12 = true by decide] at CT
    rw [hp]
    clear hk hp
    go_enter Tryz.func28, Tryz.ntmps28
    go_wp2_with fail
    refine (CK.out _).mono ?_
    rintro e w1 ⟨rfl, d1⟩
    have D1 := Lib.hid d1
    clear d1
    go_wp2_with fail
    refine (CT.out _).mono ?_
    rintro e w2 ⟨rfl, d2⟩
    have D2 := Lib.hid (D1.out.trans d2)
    clear d2
    go_wp2_with fail
    go_ret
    exact ⟨rfl, D2.out⟩
  · rw [hk] at CK
    rw [hp]
    clear hk hp CT
    go_enter Tryz.func28, Tryz.ntmps28
    go_wp2_with fail
    refine (CK.out _).mono ?_
    rintro e w1 ⟨rfl, d1⟩
    have D1 := Lib.hid d1
    clear d1
    go_wp2_with fail
    go_ret
    exact ⟨rfl, D1.out⟩
  · rw [show knownI 0 = true by decide] at CK
    rw [hp]
    clear hp CT
    go_enter Tryz.func28, Tryz.ntmps28
    go_wp2_with fail
    refine (CK.out _).mono ?_
    rintro e w1 ⟨rfl, d1⟩
    have D1 := Lib.hid d1
    clear d1
    go_wp2_with fail
    go_ret
    exact ⟨rfl, D1.out⟩
  · rw [hk] at CK
    rw [show trapsI op = false by unfold trapsI; exact decide_eq_false (by omega)] at CT
    rw [hp]
    have t0 := beqf h10
    have t3 := beqf h0
    clear hk hp h0 h10 h11 h12
    go_enter Tryz.func28, Tryz.ntmps28
    go_wp2_with fail
    refine (CK.out _).mono ?_
    rintro e w1 ⟨rfl, d1⟩
    have D1 := Lib.hid d1
    clear d1
    go_wp2_with fail
    refine (CT.out _).mono ?_
    rintro e w2 ⟨rfl, d2⟩
    have D2 := Lib.hid (D1.out.trans d2)
    clear d2
    go_wp2_with fail
    go_ret
    exact ⟨rfl, D2.out⟩
  · rw [hk] at CK
    rw [hp]
    clear hk hp h0 h10 h11 h12 CT
    go_enter Tryz.func28, Tryz.ntmps28
    go_wp2_with fail
    refine (CK.out _).mono ?_
    rintro e w1 ⟨rfl, d1⟩
    have D1 := Lib.hid d1
    clear d1
    go_wp2_with fail
    go_ret
    exact ⟨rfl, D1.out⟩
theorem price_le (op : Int) : 0 ≤ priceI op ∧ priceI op ≤ 12 := by unfold priceI; split; omega; split; omega; split <;> omega
theorem cost_snoc (l : List In) (x : In) : costI (l ++ [x]) = costI l + priceI x.op := by unfold costI; simp
theorem cost_le (l : List In) : 0 ≤ costI l ∧ costI l ≤ 12 * l.length := by
  induction l with
  | nil => simp [costI]
  | cons x l ih =>
    have := price_le x.op
    have e : costI (x :: l) = priceI x.op + costI l := by unfold costI; simp
    rw [e, List.length_cons]
    omega
end Go.Proofs.Sat
