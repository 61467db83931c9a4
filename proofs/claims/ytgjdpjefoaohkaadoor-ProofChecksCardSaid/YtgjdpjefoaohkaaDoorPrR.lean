/- The walks of Uses and Rules: both sides. -/
import Derived.Test.YtgjdpjefoaohkaaDoorSortW
import Derived.Test.YtgjdpjefoaohkaaDoorR3O
import Derived.Test.YtgjdpjefoaohkaaDoorPrD
set_option linter.unusedVariables false
set_option linter.unusedSimpArgs false
namespace Go.Proofs.Sat
open Go Go.RowKit
/-- The number of steps that use rules, of the first k. -/
def usesN (l : List St) (k : Nat) : Nat := (l.take k).countP fun x => x.kind == 5
def rulesN (l : List St) (k : Nat) : List Int := ((l.take k).filter fun x => x.kind == 5).map (·.rule)
theorem usesN_succ (l : List St) {k : Nat} (h : k < l.length) : usesN l (k + 1) = if (l[k].kind == 5) = true then usesN l k + 1 else usesN l k := by
  unfold usesN
  rw [List.take_succ_eq_append_getElem h, List.countP_append]
  by_cases hk : (l[k].kind == 5) = true <;> simp [hk]
theorem usesN_le (l : List St) (k : Nat) : usesN l k ≤ k := Nat.le_trans List.countP_le_length (by rw [List.length_take]; omega)
theorem rulesN_succ (l : List St) {k : Nat} (h : k < l.length) : rulesN l (k + 1) = if (l[k].kind == 5) = true then rulesN l k ++ [l[k].rule] else rulesN l k := by
  unfold rulesN
  rw [List.take_succ_eq_append_getElem h, List.filter_append, List.map_append]
  by_cases hk : (l[k].kind == 5) = true <;> simp [hk]
theorem rulesN_le (l : List St) (k : Nat) : (rulesN l k).length ≤ k := by
  unfold rulesN
  rw [List.length_map]
  exact Nat.le_trans (List.length_filter_le _ _) (by rw [List.length_take]; omega)
/-- append of one, the world's size told. -/
theorem run_app1_to {P : Program} {α : Type} {d : Kd α} (H : Nat) (w : World) (hH : w.heap.size = H) {t e : TypeId} {z : Value} {size bytes : Nat} (I : ElemInfo P t e z size bytes) (hd : d.sz = size) (ty : TypeId) {S : Nat → Prop} {base : Nat} {v : Value} {xs : List α} (hown : Own d e S w base v xs)
    (t0 : TypeId) (cs : List Value) (x : α) (hk : d.K (fun b => S b ∧ some b ≠ v.ownBlock) w cs x) (hb : (xs.length + 1) * bytes ≤ 140737488355328) (h63 : xs.length + 1 ≤ 9223372036854775807) (hbase : base ≤ w.heap.size) :
    ∃ v' w', (Builtin.append_ #[t, t] ty #[v, .slice (some ⟨H, 0, none⟩) 1 1]).run P (w.alloc (.cells cs.toArray t0)) = .ok v' w' ∧ Own d e S w' base v' (xs ++ [x]) ∧ w.grownBy w' v.ownBlock ∧
      (v'.ownBlock = v.ownBlock ∨ ∀ k, v'.ownBlock = some k → w.heap.size ≤ k) ∧ ∃ a c, v' = .slice a (xs.length + 1) c := by
  subst hH
  exact run_app1 w I hd ty hown t0 cs x hk hb h63 hbase
set_option maxHeartbeats 1000000 in
theorem proof_Uses (S : Nat → Prop) (a : Option Addr) (c : Nat) (l : List St) (w : World) (h : Rd kSt S w a c l) :
    Calls Tryd.prog 25 #[.slice a l.length c] w fun e w' => e = .returned (.int .i64 (usesN l l.length)) ∧ Below w.heap.size w w' := by
  have hl := h.le
  go_enter Tryd.func25, Tryd.ntmps25
  go_wp2
  go_loopw [3, 8] (fun v i wr => ∃ k : Nat, k ≤ l.length ∧ (i = .int .i64 k ∧ v = .int .i64 (usesN l k)) ∧ Hid (Below w.heap.size w wr)) (fun _ i _ => l.length - (intOf i).toNat)
  case atStart => exact ⟨0, by omega, ⟨rfl, rfl⟩, Below.refl _ _⟩
  case round =>
    obtain ⟨k, hk, ⟨rfl, rfl⟩, HB⟩ := hrel
    have hu := usesN_le l k
    by_cases hlt : k < l.length
    · obtain ⟨b, o, p, rfl, hbl, hr, IN⟩ := st_elem h hlt
      have HT := Lib.hid (usesN_succ l hlt)
      generalize l[k] = x at *
      obtain ⟨ra, rc, sa, sc, aa, ac, ba, bc⟩ := p
      obtain ⟨i0, i1, i2, i3, i4, i5, i6, i7, i8, i9, i10, i11, i12, i13⟩ := IN.frame (HB.out.block _ hbl)
      dsimp only at *
      clear hr IN
      cases hq : (x.kind == 5)
      · rw [hq] at HT
        go_wp2
        go_roundw
        case rel => exact ⟨k + 1, by omega, ⟨by go_num, by rw [HT.out]; rfl⟩, below_alloc HB.out _⟩
        case measure => simp [intOf]; omega
      · rw [hq] at HT
        go_wp2
        go_roundw
        case rel => exact ⟨k + 1, by omega, ⟨by go_num, by rw [HT.out]; simp⟩, below_alloc HB.out _⟩
        case measure => simp [intOf]; omega
    · obtain rfl : k = l.length := by omega
      go_wp2
      go_ret
      exact ⟨rfl, HB.out⟩
set_option maxHeartbeats 1000000 in
theorem ref34_Uses (S : Nat → Prop) (a : Option Addr) (c : Nat) (l : List St) (w : World) (h : Rd kSt S w a c l) :
    Calls Tryd.prog 26 #[.slice a l.length c] w fun e w' => e = .returned (.int .i64 (usesN l l.length)) ∧ Below w.heap.size w w' := by
  have hl := h.le
  go_enter Tryd.func26, Tryd.ntmps26
  go_wp2
  go_loopw [3, 4] (fun v i wr => ∃ k : Nat, k ≤ l.length ∧ (i = .int .i64 k ∧ v = .int .i64 (usesN l k)) ∧ Hid (Below w.heap.size w wr)) (fun _ i _ => l.length - (intOf i).toNat)
  case atStart => exact ⟨0, by omega, ⟨rfl, rfl⟩, Below.refl _ _⟩
  case round =>
    obtain ⟨k, hk, ⟨rfl, rfl⟩, HB⟩ := hrel
    have hu := usesN_le l k
    by_cases hlt : k < l.length
    · obtain ⟨b, o, p, rfl, hbl, hr, IN⟩ := st_elem h hlt
      have HT := Lib.hid (usesN_succ l hlt)
      generalize l[k] = x at *
      obtain ⟨ra, rc, sa, sc, aa, ac, ba, bc⟩ := p
      obtain ⟨i0, i1, i2, i3, i4, i5, i6, i7, i8, i9, i10, i11, i12, i13⟩ := IN.frame (HB.out.block _ hbl)
      dsimp only at *
      clear hr IN
      cases hq : (x.kind == 5)
      · rw [hq] at HT
        go_wp2
        go_roundw
        case rel => exact ⟨k + 1, by omega, ⟨by go_num, by rw [HT.out]; rfl⟩, HB.out⟩
        case measure => simp [intOf]; omega
      · rw [hq] at HT
        go_wp2
        go_roundw
        case rel => exact ⟨k + 1, by omega, ⟨by go_num, by rw [HT.out]; simp⟩, HB.out⟩
        case measure => simp [intOf]; omega
    · obtain rfl : k = l.length := by omega
      go_wp2
      go_ret
      exact ⟨rfl, HB.out⟩
set_option maxHeartbeats 1000000 in
theorem proof_Rules (S : Nat → Prop) (a : Option Addr) (c : Nat) (l : List St) (w : World) (h : Rd kSt S w a c l) (hn : l.length ≤ 65536) :
    Calls Tryd.prog 27 #[.slice a l.length c] w fun e w' => ∃ v, e = .returned v ∧ Own (Kd.int .i64) 3 NoS w' w.heap.size v (ofL (rulesN l l.length)) ∧ Below w.heap.size w w' := by
  have hl := h.le
  go_enter Tryd.func27, Tryd.ntmps27
  go_wp2
  go_loopw [3, 8] (fun v i wr => ∃ k : Nat, k ≤ l.length ∧ i = .int .i64 k ∧ Hid (Own (Kd.int .i64) 3 NoS wr w.heap.size v (rulesN l k)) ∧ Hid (Below w.heap.size w wr)) (fun _ i _ => l.length - (intOf i).toNat)
  case atStart => exact ⟨0, by omega, rfl, Own.nil _ _ _ _ _, Below.refl _ _⟩
  case round =>
    obtain ⟨k, hk, rfl, HO, HB⟩ := hrel
    have hu := rulesN_le l k
    by_cases hlt : k < l.length
    · obtain ⟨b, o, p, rfl, hbl, hr, IN⟩ := st_elem h hlt
      have HT := Lib.hid (rulesN_succ l hlt)
      generalize l[k] = x at *
      obtain ⟨ra, rc, sa, sc, aa, ac, ba, bc⟩ := p
      obtain ⟨i0, i1, i2, i3, i4, i5, i6, i7, i8, i9, i10, i11, i12, i13⟩ := IN.frame (HB.out.block _ hbl)
      dsimp only at *
      clear hr IN
      cases hq : (x.kind == 5)
      · rw [hq] at HT
        go_wp2
        go_roundw
        case rel => exact ⟨k + 1, by omega, by go_num, by rw [HT.out]; exact HO.out.alloc _, below_alloc HB.out _⟩
        case measure => simp [intOf]; omega
      · rw [hq] at HT
        go_wp2_with (first
          | (at_builtin
             refine wpList_append_ev _ rfl _ _ 28 rfl _ _ rfl rfl _ (run_app1_to (wr.heap.size + 1) _ (by simp) infoInt rfl _ (HO.out.alloc _) 3 [.int .i64 _] _ rfl (by omega) (by omega) (below_alloc HB.out _).size) ?_
             rintro n2 w2 ⟨ow2, g2, v2, _⟩
             have B2 := Lib.hid (Below.grown (below_alloc HB.out _) g2 (below_alloc HB.out _).size (fun k hk => (HO.out.lt k hk).1))
             have O2 := Lib.hid ow2
             clear ow2 g2 v2)
          | fail)
        go_roundw
        case rel =>
          refine ⟨k + 1, by omega, by go_num, ?_, B2.out⟩
          show Own _ _ _ _ _ _ _
          rw [HT.out]
          exact O2.out
        case measure => simp [intOf]; omega
    · obtain rfl : k = l.length := by omega
      rcases HO.out.block with ⟨hv, hz⟩ | ⟨g, cap, cur, hv, hgb, _⟩
      · subst hv
        have HZ := Lib.hid hz
        clear hz
        go_wp2_with (first
          | (go_at_call 40; refine (Tryd.slices_Sort_int_none none 0 wr).mono ?_; rintro e w3 ⟨rfl, rfl⟩)
          | (go_at_call 41; refine (Tryd.slices_Compact_int_empty none 0 _).mono ?_; rintro e w4 ⟨rfl, rfl⟩)
          | fail)
        go_ret
        refine ⟨.slice none 0 0, rfl, ?_, HB.out⟩
        rw [HZ.out]
        exact Own.nil _ _ _ _ _
      · subst hv
        go_wp2_with (first
          | (go_at_call 40; refine (sort_own HO.out (by omega)).mono ?_; rintro e w3 ⟨rfl, ho3, hg3⟩)
          | (go_at_call 41; refine (compact_own (by simp) ho3).mono ?_; rintro e w4 ⟨v, rfl, ho4, hg4⟩)
          | fail)
        go_ret
        rw [compact_sort] at ho4
        exact ⟨v, rfl, ho4, (HB.out.grown hg3 HB.out.size (fun k hk => by cases hk; exact hgb)).grown hg4 (Nat.le_trans HB.out.size hg3.size) (fun k hk => by cases hk; exact hgb)⟩
set_option maxHeartbeats 1000000 in
theorem ref34_Rules (S : Nat → Prop) (a : Option Addr) (c : Nat) (l : List St) (w : World) (h : Rd kSt S w a c l) (hn : l.length ≤ 65536) :
    Calls Tryd.prog 28 #[.slice a l.length c] w fun e w' => ∃ v, e = .returned v ∧ Own (Kd.int .i64) 3 NoS w' w.heap.size v (ofL (rulesN l l.length)) ∧ Below w.heap.size w w' := by
  have hl := h.le
  go_enter Tryd.func28, Tryd.ntmps28
  go_wp2
  go_loopw [3, 4] (fun v i wr => ∃ k : Nat, k ≤ l.length ∧ i = .int .i64 k ∧ Hid (Own (Kd.int .i64) 3 NoS wr w.heap.size v (rulesN l k)) ∧ Hid (Below w.heap.size w wr)) (fun _ i _ => l.length - (intOf i).toNat)
  case atStart => exact ⟨0, by omega, rfl, Own.nil _ _ _ _ _, Below.refl _ _⟩
  case round =>
    obtain ⟨k, hk, rfl, HO, HB⟩ := hrel
    have hu := rulesN_le l k
    by_cases hlt : k < l.length
    · obtain ⟨b, o, p, rfl, hbl, hr, IN⟩ := st_elem h hlt
      have HT := Lib.hid (rulesN_succ l hlt)
      generalize l[k] = x at *
      obtain ⟨ra, rc, sa, sc, aa, ac, ba, bc⟩ := p
      obtain ⟨i0, i1, i2, i3, i4, i5, i6, i7, i8, i9, i10, i11, i12, i13⟩ := IN.frame (HB.out.block _ hbl)
      dsimp only at *
      clear hr IN
      cases hq : (x.kind == 5)
      · rw [hq] at HT
        go_wp2
        go_roundw
        case rel => exact ⟨k + 1, by omega, by go_num, by rw [HT.out]; exact HO.out, HB.out⟩
        case measure => simp [intOf]; omega
      · rw [hq] at HT
        go_wp2_with (first
          | (at_builtin
             refine wpList_append_ev _ rfl _ _ 28 rfl _ _ rfl rfl _ (run_app1 _ infoInt rfl _ (HO.out) 3 [.int .i64 _] _ rfl (by omega) (by omega) (HB.out).size) ?_
             rintro n2 w2 ⟨ow2, g2, v2, _⟩
             have B2 := Lib.hid (Below.grown (HB.out) g2 (HB.out).size (fun k hk => (HO.out.lt k hk).1))
             have O2 := Lib.hid ow2
             clear ow2 g2 v2)
          | fail)
        go_roundw
        case rel =>
          refine ⟨k + 1, by omega, by go_num, ?_, B2.out⟩
          show Own _ _ _ _ _ _ _
          rw [HT.out]
          exact O2.out
        case measure => simp [intOf]; omega
    · obtain rfl : k = l.length := by omega
      obtain ⟨a9, c9, rfl, r9⟩ := HO.out.rd
      have R9 := Lib.hid r9
      clear r9
      go_wp2_with (first
        | (go_at_call 42; refine (ref03_Of _ a9 c9 (rulesN l l.length) wr R9.out (by omega)).mono ?_; rintro e w3 ⟨v3, rfl, o3, b3⟩; have O3 := Lib.hid o3; have B3 := Lib.hid (below_both HB.out b3); clear o3 b3)
        | fail)
      go_ret
      exact ⟨v3, rfl, O3.out.mono (fun _ _ h => h) HB.out.size, B3.out⟩
end Go.Proofs.Sat
