/- The walk of proof.Trim. -/
import Derived.Test.YtgjdpjefoaohkaaDoorPrF
import Derived.Test.YtgjdpjefoaohkaaDoorPrH
import Derived.Test.YtgjdpjefoaohkaaDoorPrN
import Derived.Test.YtgjdpjefoaohkaaDoorR3
import Derived.Deep.RegionHeld3
import Derived.WalkLawsBesides
set_option linter.unusedVariables false
set_option linter.unusedSimpArgs false
namespace Go.Proofs.Sat
open Go Go.RowKit
theorem infoSt : ElemInfo Tryd.prog 27 36 (.agg #[.int .i64 0, .slice none 0 0, .int .i64 0, .slice none 0 0, .int .i64 0, .int .i64 0, .int .u64 0, .string ⟨#[]⟩, .slice none 0 0, .int .i64 0, .int .i64 0, .int .u64 0, .string ⟨#[]⟩, .slice none 0 0]) 14 192 := ⟨Tryd.underlying27, by kernel_rfl, rfl, by decide⟩
/-- A step that clone may copy. -/
structure Lite (x : St) : Prop where
  a : Few 60 x.a
  b : Few 60 x.b
  s : ∀ s ∈ x.subs, Few 60 s.term
  n : x.subs.length ≤ 1099511627776
  r : x.refs.length ≤ 1099511627776
theorem st_flat {w : World} {g : Nat} {t : TypeId} {v0 v1 v2 v3 v4 v5 v6 v7 v8 v9 v10 v11 v12 v13 : Value} (h : w.heap[g]? = some (.cells #[v0, v1, v2, v3, v4, v5, v6, v7, v8, v9, v10, v11, v12, v13] t (0, 0))) :
    w.cell? ⟨g, 0, none⟩ = some v0 ∧ w.cell? ⟨g, 1, none⟩ = some v1 ∧ w.cell? ⟨g, 2, none⟩ = some v2 ∧ w.cell? ⟨g, 3, none⟩ = some v3 ∧ w.cell? ⟨g, 4, none⟩ = some v4 ∧ w.cell? ⟨g, 5, none⟩ = some v5 ∧ w.cell? ⟨g, 6, none⟩ = some v6 ∧
    w.cell? ⟨g, 7, none⟩ = some v7 ∧ w.cell? ⟨g, 8, none⟩ = some v8 ∧ w.cell? ⟨g, 9, none⟩ = some v9 ∧ w.cell? ⟨g, 10, none⟩ = some v10 ∧ w.cell? ⟨g, 11, none⟩ = some v11 ∧ w.cell? ⟨g, 12, none⟩ = some v12 ∧ w.cell? ⟨g, 13, none⟩ = some v13 := by
  obtain ⟨⟨h0, h1, h2, h3⟩, ⟨h4, h5, h6, h7, h8⟩, ⟨h9, h10, h11, h12, h13⟩, _⟩ := st_block h
  exact ⟨h0, h1, h2, h3, h4, h5, h6, h7, h8, h9, h10, h11, h12, h13⟩
/-- A value of Needed that is not nil. -/
theorem Own.some {w : World} {base : Nat} {v : Value} {xs : List Int} {e : TypeId} (h : Own (Kd.int .i64) e NoS w base v xs) (hne : xs ≠ []) : ∃ g c, v = .slice (Option.some ⟨g, 0, none⟩) xs.length c := by
  rcases h.block with ⟨_, h0⟩ | ⟨g, cap, cur, hv, _⟩
  · exact absurd h0 hne
  · exact ⟨g, cap, hv⟩
theorem proof_clone' (S : Nat → Prop) (x : St) (p : StAt) (fa : Option Addr) (fc : Nat) (rs : List Int) (w : World) (h : StRd S w x p) (hl : Lite x) (B : Nat) (hB : B ≤ w.heap.size) (hr : Rd (Kd.int .i64) (fun b => B ≤ b) w fa fc rs) :
    Calls Tryd.prog 36 #[stVal x p, .slice fa rs.length fc] w fun e w' => ∃ p', e = .returned (stVal { x with refs := rs } p') ∧ kSt.K (fun b => B ≤ b) w' (stCells { x with refs := rs } p') { x with refs := rs } ∧ Below w.heap.size w w' := by
  refine (proof_clone S x p fa fc rs w h hl.a hl.b hl.s hl.n).mono ?_
  rintro e w3 ⟨p', rfl, q1, q2, q3, q4, q5, b3⟩
  refine ⟨p', rfl, ⟨p', rfl, ?_, q3.mono fun b _ hb => Nat.le_trans hB hb, q4.mono fun b _ hb => Nat.le_trans hB hb, q5.mono fun b _ hb => Nat.le_trans hB hb⟩, b3⟩
  rw [q1, q2]
  exact hr.frame (Same.below b3)
theorem proof_clone_n (S : Nat → Prop) (x : St) (p : StAt) (fa : Option Addr) (fc n : Nat) (rs : List Int) (hn : rs.length = n) (w : World) (h : StRd S w x p) (hl : Lite x) (B : Nat) (hB : B ≤ w.heap.size) (hr : Rd (Kd.int .i64) (fun b => B ≤ b) w fa fc rs) :
    Calls Tryd.prog 36 #[stVal x p, .slice fa n fc] w fun e w' => ∃ p', e = .returned (stVal { x with refs := rs } p') ∧ kSt.K (fun b => B ≤ b) w' (stCells { x with refs := rs } p') { x with refs := rs } ∧ Below w.heap.size w w' := by
  subst hn
  exact proof_clone' S x p fa fc rs w h hl B hB hr
set_option maxRecDepth 20000 in
set_option maxHeartbeats 4000000 in
theorem proof_Trim (S : Nat → Prop) (a : Option Addr) (c : Nat) (l : List St) (w : World) (h : Rd kSt S w a c l) (hK : Kinds w) (hL : ∀ x ∈ l, Lite x) (hn : l.length ≤ 65536) :
    Calls Tryd.prog 19 #[.slice a l.length c] w fun e w' => ∃ v, e = .returned v ∧ Own kSt 36 (fun b => w.heap.size ≤ b) w' w.heap.size v (trimL l) ∧ Below w.heap.size w w' := by
  have hl := h.le
  have NIL : ∀ (W : World) (A : Option Addr) (n c : Nat), (binOp .eql 28 (.slice A n c) (.slice none 0 0)).run Tryd.prog W = .ok (.bool A.isNone) W := fun W A n c => Go.Lib.run_eql_slice_nil (P := Tryd.prog) W 28 3 A n c 0 0 Tryd.underlying28
  go_enter Tryd.func19, Tryd.ntmps19
  by_cases he : (chk l).2 = 0
  · have HE := Lib.hid he
    clear he
    have HT : Hid (trimL l = trimN l (needed l).length) := if_pos HE.out
    go_wp2_with (first
      | (go_at_call 16; refine (proof_Needed _ a c l w h hK).mono ?_; rintro e w1 ⟨v, rfl, ho, hb1, -⟩; obtain ⟨gN, cN, rfl⟩ := ho.some (needed_ne HE.out); have HN1 := Lib.hid ho; clear ho)
      | ((with_reducible refine gate_m 28 (.tmp 34) (.tmp 34) rfl ?_); refine wpList_make_ev _ rfl (.tmp 34) (.tmp 34) 28 rfl _ _ rfl rfl _ (run_mk _ (enc := fun x => .int .i64 x) (fun _ => rfl) infoInt NoS _ _ _ _ l.length rfl rfl (by omega) (by omega) hb1.size) ?_; rintro v' w2 ⟨ho, hg, rfl⟩
         have HA2 : Hid (Own (Kd.int .i64) 3 NoS w2 w.heap.size (.slice (some ⟨w1.heap.size, 0, none⟩) l.length l.length) (List.replicate l.length 0)) := ho
         have B2 := Lib.hid (hb1.grown hg hb1.size (fun k hk => by cases hk))
         have HN2 := Lib.hid (HN1.out.same (Same.grown hg fun b _ e => by cases e))
         have hM : w1.heap.size < w2.heap.size := (HA2.out.lt w1.heap.size rfl).2
         have hGN : gN < w1.heap.size := (HN1.out.lt gN rfl).2
         clear ho hg)
      | fail)
    have hNl := needed_length l
    go_loopw [3, 38] (fun v i wr => ∃ (n : Nat) (row : List Int), n ≤ (needed l).length ∧ i = .int .i64 n ∧ Hid (Own kSt 36 (fun b => w2.heap.size ≤ b) wr w2.heap.size v (trimN l n)) ∧ Hid (Own (Kd.int .i64) 3 NoS wr w.heap.size (.slice (some ⟨w1.heap.size, 0, none⟩) l.length l.length) row) ∧ Hid (row.length = l.length) ∧
      Hid (∀ m (hm : m < (needed l).length), m < n → row.getD ((needed l)[m]).toNat 0 = m) ∧ Hid (Own (Kd.int .i64) 3 NoS wr w.heap.size (.slice (some ⟨gN, 0, none⟩) (needed l).length cN) (needed l)) ∧ Hid (w2.heap.size ≤ wr.heap.size) ∧ Hid (Below w.heap.size w wr)) (fun _ i _ => (needed l).length - (intOf i).toNat)
    case atStart => exact ⟨0, _, by omega, rfl, Own.nil _ _ _ _ _, HA2.out, by simp [Hid], fun m hm h => by omega, HN2.out, Nat.le_refl _, B2.out⟩
    case round =>
      obtain ⟨n, row, hnN, rfl, HO, HA, HAL, HAT, HNN, hz, HB⟩ := hrel
      obtain ⟨av, cv, hv⟩ := HO.out.form
      rw [trimN_length HE.out n hnN] at hv
      subst hv
      by_cases hlt : n < (needed l).length
      · have hna := needed_at HE.out hlt
        have u1 := (HNN.out.at rfl).1 n hlt
        have HREF := Lib.hid (needed_ref HE.out hlt)
        have HCB := Lib.hid (fun m hm => count_below (needed_inc l) (n := m) hm)
        have HTS := Lib.hid (trimN_succ HE.out hlt)
        have HX : Hid (∀ (m : Nat) (hm : m < (needed l).length), m ≠ n → ((needed l)[m]).toNat ≠ ((needed l)[n]).toNat) := fun m hm hne e => by
          have h1 := count_below (needed_inc l) hm
          have h2 := count_below (needed_inc l) hlt
          have h3 := (needed_at HE.out hm).1
          have h4 := (needed_at HE.out hlt).1
          have : (needed l)[m] = (needed l)[n] := by omega
          rw [this] at h1
          omega
        generalize hiv : (needed l)[n] = iv at *
        obtain ⟨im, rfl⟩ := Int.eq_ofNat_of_zero_le hna.1
        have HIV := Lib.hid hiv
        clear hiv
        have him : im < l.length := by omega
        have hal := HA.out.at HAL.out
        have a1 := hal.1 im (by rw [HAL.out]; exact him)
        have a2 := hal.2 im
        obtain ⟨b, o, p, rfl, hbl, hr, IN⟩ := st_elem h him
        have hlx := Lib.hid (hL _ (List.getElem_mem him))
        have HREF' := Lib.hid (HREF.out him)
        have HTS' := Lib.hid (HTS.out him)
        generalize hx : l[((im : Nat) : Int).toNat]'him = x at *
        have hx' : l[im] = x := hx
        rw [hx'] at hr IN hlx
        obtain ⟨ra, rc, sa, sc, aa, ac, ba, bc⟩ := p
        have WA : Hid (∀ v, Below w.heap.size w (wr.setCell ⟨w1.heap.size, im, none⟩ v)) := fun v => HB.out.setCell (p := ⟨w1.heap.size, im, none⟩) (by show w.heap.size ≤ w1.heap.size; exact hb1.size) v
        have c1 : ∀ v, (wr.setCell ⟨w1.heap.size, im, none⟩ v).cell? ⟨b, o + im * 14 + 1, none⟩ = some (.slice ra x.refs.length rc) := fun v => (IN.frame ((WA.out v).block _ hbl)).c1
        have hrl := hlx.out.r
        have hr0 := Lib.hid hr
        have hbl' := Lib.hid hbl
        have HA' := Lib.hid (fun v => HA.out.set HAL.out im him v)
        have HIN := Lib.hid IN
        have HRV : Hid (∀ r ∈ x.refs, 0 ≤ r ∧ r < l.length ∧ (row.set im n).getD r.toNat 0 = ((needed l).countP fun y => decide (y < r) : Nat)) := fun r hr => by
          obtain ⟨m, hm, rfl⟩ := HREF'.out r hr
          have hml : m < (needed l).length := by omega
          have h1 := needed_at HE.out hml
          refine ⟨h1.1, h1.2.1, ?_⟩
          have hne : ((needed l)[m]).toNat ≠ im := by have := HX.out m hml (by omega); simpa using this
          rw [HCB.out m hml, List.getD_eq_getElem?_getD, List.getElem?_set_ne (fun e => hne e.symm), ← List.getD_eq_getElem?_getD, HAT.out m hml hm]
        have HAT2 : Hid (∀ m (hm : m < (needed l).length), m < n + 1 → (row.set im n).getD ((needed l)[m]).toNat 0 = m) := fun m hm h => by
          by_cases hmn : m = n
          · subst hmn
            rw [HIV.out, Int.toNat_natCast, List.getD_eq_getElem?_getD, List.getElem?_set_self (by rw [HAL.out]; exact him)]
            rfl
          · have hne : ((needed l)[m]).toNat ≠ im := by have := HX.out m hm hmn; simpa using this
            rw [List.getD_eq_getElem?_getD, List.getElem?_set_ne (fun e => hne e.symm), ← List.getD_eq_getElem?_getD]
            exact HAT.out m hm (by omega)
        have hGw : w.heap.size ≤ w1.heap.size := hb1.size
        have NV : Hid (Own (Kd.int .i64) 3 NoS (wr.setCell ⟨w1.heap.size, im, none⟩ (.int .i64 n)) w.heap.size (.slice (some ⟨gN, 0, none⟩) (needed l).length cN) (needed l)) := HNN.out.same (Same.setCell wr _ (fun b hb => by
          rcases hb with hb | hb
          · exact hb.elim
          · cases hb; show gN ≠ w1.heap.size; omega))
        have OV : Hid (Own kSt 36 (fun b => w2.heap.size ≤ b) (wr.setCell ⟨w1.heap.size, im, none⟩ (.int .i64 n)) w2.heap.size (.slice av n cv) (trimN l n)) := HO.out.same (Same.setCell wr _ (fun b hb => by
          show b ≠ w1.heap.size
          rcases hb with hb | hb
          · omega
          · have := (HO.out.lt b hb.symm).1; omega))
        have zV : Hid (wr.heap.size = (wr.setCell ⟨w1.heap.size, im, none⟩ (.int .i64 n)).heap.size) := by show _ = _; simp [World.setCell]
        clear hr IN hx hx' HREF HTS HCB hal hna HX
        go_wp2_with (first
          | ((with_reducible refine gate_m 28 (.tmp 52) (.tmp 52) rfl ?_); refine wpList_make_ev _ rfl (.tmp 52) (.tmp 52) 28 rfl _ _ rfl rfl _ (run_mk (wr.setCell ⟨w1.heap.size, im, none⟩ (.int .i64 n)) (enc := fun x => .int .i64 x) (fun _ => rfl) infoInt NoS _ _ _ _ x.refs.length rfl rfl (by omega) (by omega) (Nat.le_refl _)) ?_; rintro v' w3 ⟨ho, hg, hv'⟩
             obtain rfl : v' = .slice (some ⟨wr.heap.size, 0, none⟩) x.refs.length x.refs.length := hv'.trans (by simp [World.setCell])
             have B3 : Hid (Below (wr.setCell ⟨w1.heap.size, im, none⟩ (.int .i64 n)).heap.size (wr.setCell ⟨w1.heap.size, im, none⟩ (.int .i64 n)) w3) := (Below.refl _ _).grown hg (Nat.le_refl _) (fun k hk => by cases hk)
             have c2 : w3.cell? ⟨b, o + im * 14 + 1, none⟩ = some (.slice ra x.refs.length rc) := (World.cell?_of_block (B3.out.block b (Nat.lt_of_lt_of_le hbl (WA.out (.int .i64 n)).size))).trans (c1 _)
             have HR3 : Hid (Own (Kd.int .i64) 3 NoS w3 (wr.setCell ⟨w1.heap.size, im, none⟩ (.int .i64 n)).heap.size (.slice (some ⟨wr.heap.size, 0, none⟩) x.refs.length x.refs.length) (List.replicate x.refs.length 0)) := ho
             clear ho hg hv')
          | fail)
        have BV := Lib.hid (WA.out (.int .i64 n))
        have AV := Lib.hid (HA'.out n)
        have hz' := hz.out
        generalize wr.setCell ⟨w1.heap.size, im, none⟩ (.int .i64 n) = V at *
        generalize wr.heap.size = R at *
        go_loopw [60] (fun i wr => ∃ k : Nat, k ≤ x.refs.length ∧ i = .int .i64 k ∧ Hid (Own (Kd.int .i64) 3 NoS wr V.heap.size (.slice (some ⟨R, 0, none⟩) x.refs.length x.refs.length) (mvRow (needed l) x.refs k)) ∧ Hid (Below V.heap.size V wr)) (fun i _ => x.refs.length - (intOf i).toNat)
        case atStart => exact ⟨0, by omega, rfl, HR3.out, B3.out⟩
        case round =>
          obtain ⟨k, hk, rfl, HO2, HB2⟩ := hrel
          by_cases hlt2 : k < x.refs.length
          · obtain ⟨b2, o2, rfl, _, _, hc⟩ := (hr0.out.refs.frame (Same.below (below_then BV.out BV.out.size HB2.out))).vals (by omega) 0
            have d := hc k hlt2
            rw [getD_at x.refs hlt2] at d
            have hrv := HRV.out x.refs[k] (List.getElem_mem hlt2)
            have HMS := Lib.hid (mvRow_succ (needed l) x.refs hlt2)
            have HML : Hid ((mvRow (needed l) x.refs k).length = x.refs.length) := mvRow_length (needed l) x.refs hk
            generalize x.refs[k] = r at *
            obtain ⟨hr1, hr2, hr3⟩ := hrv
            obtain ⟨m, rfl⟩ := Int.eq_ofNat_of_zero_le hr1
            have hml : m < l.length := by omega
            have u1 := ((AV.out.below HB2.out).at (by rw [List.length_set]; exact HAL.out)).1 m (by rw [List.length_set, HAL.out]; exact hml)
            rw [Int.toNat_natCast, List.getD_eq_getElem?_getD, List.getElem?_eq_getElem (by rw [List.length_set, HAL.out]; exact hml)] at hr3
            rw [show (row.set im (n : Int))[m]'(by rw [List.length_set, HAL.out]; exact hml) = _ from hr3] at u1
            obtain ⟨hat, hfr⟩ := HO2.out.at HML.out
            have u2 := hat k (by rw [HML.out]; exact hlt2)
            have u3 := hfr k
            have HSET := Lib.hid (fun v => HO2.out.set HML.out k hlt2 v)
            generalize ((needed l).countP fun y => decide (y < (m : Int))) = cnt at *
            clear hc hat hfr hr3
            go_wp2
            go_roundw
            case rel =>
              refine ⟨k + 1, by omega, by go_num, ?_, HB2.out.setCell (by show V.heap.size ≤ R; have : R = V.heap.size := zV.out; omega) _⟩
              show Own _ _ _ _ _ _ _
              rw [← HMS.out]
              exact HSET.out _
            case measure => simp [intOf]; omega
          · obtain rfl : k = x.refs.length := by omega
            have BW := Lib.hid (below_then BV.out BV.out.size HB2.out)
            obtain ⟨i0, i1, i2, i3, i4, i5, i6, i7, i8, i9, i10, i11, i12, i13⟩ := HIN.out.frame (BW.out.block b hbl'.out)
            have hr1 := Lib.hid (hr0.out.frame (Same.below BW.out))
            have HO3 : Hid (Own (Kd.int .i64) 3 NoS wr V.heap.size (.slice (some ⟨R, 0, none⟩) x.refs.length x.refs.length) (movedS (needed l) x).refs) := by
              have := HO2.out
              unfold mvRow at this
              rw [List.take_length, Nat.sub_self, List.replicate_zero, List.append_nil] at this
              exact this
            have hml : (movedS (needed l) x).refs.length = x.refs.length := by simp [movedS]
            have RR := Lib.hid (HO3.out.rd'.mono (S' := fun b => V.heap.size ≤ b) fun b _ hb => by rcases hb with hb | hb; exact hb.elim; exact hb)
            have RR' : Hid (Rd (Kd.int .i64) (fun b => V.heap.size ≤ b) wr (some ⟨R, 0, none⟩) x.refs.length (movedS (needed l) x).refs) := RR.out
            have HML := Lib.hid hml
            have hlN := trimN_length HE.out n hnN
            have hNl' := hNl
            clear RR HO2 hml c1 c2
            go_wp2_with (first
              | (go_at_call 36
                 refine (proof_clone_n S x ⟨ra, rc, sa, sc, aa, ac, ba, bc⟩ (some ⟨R, 0, none⟩) x.refs.length x.refs.length (movedS (needed l) x).refs HML.out wr hr1.out hlx.out V.heap.size HB2.out.size RR'.out).mono ?_
                 rintro e w4 ⟨p', rfl, k4, b4⟩
                 have B4 := Lib.hid (below_both BW.out b4)
                 have BV4 := Lib.hid (below_both HB2.out b4)
                 have O4 := Lib.hid (OV.out.below BV4.out)
                 have K4 : Hid (kSt.K (fun b => w2.heap.size ≤ b ∧ some b ≠ (Value.slice av n cv).ownBlock) w4 (stCells (movedS (needed l) x) p') (movedS (needed l) x)) := kSt.mono (fun b _ hb => ⟨by have hb' : V.heap.size ≤ b := hb; have := zV.out; omega, fun e => by have := (OV.out.lt b e.symm).2; have hb' : V.heap.size ≤ b := hb; omega⟩) k4
                 have z4 : Hid (w2.heap.size ≤ w4.heap.size) := by have := BV4.out.size; have := zV.out; show _ ≤ _; omega
                 clear k4 b4)
              | (at_builtin
                 refine wpList_append_ev _ rfl _ _ 27 rfl _ _ rfl rfl _ (run_app1 w4 infoSt rfl _ O4.out 36 (stCells (movedS (needed l) x) p') (movedS (needed l) x) K4.out (by omega) (by omega) z4.out) ?_
                 rintro n2 w5 ⟨ow5, g5, v5, _⟩
                 have O5 : Hid (Own kSt 36 (fun b => w2.heap.size ≤ b) w5 w2.heap.size n2 (trimN l n ++ [movedS (needed l) x])) := ow5
                 have hlow : ∀ k, (Value.slice av n cv).ownBlock = some k → w2.heap.size ≤ k := fun k hk => (OV.out.lt k hk).1
                 have B5 := Lib.hid (B4.out.grown g5 B4.out.size (fun k hk => by have := hlow k hk; omega))
                 have z5 : Hid (w2.heap.size ≤ w5.heap.size) := Nat.le_trans z4.out g5.size
                 have A5 := Lib.hid ((AV.out.below BV4.out).same (Same.grown g5 fun b hb e => by
                   rcases hb with hb | hb
                   · exact hb
                   · have hb' : b = w1.heap.size := by cases hb; rfl
                     have := hlow _ e.symm; omega))
                 have N5 := Lib.hid ((NV.out.below BV4.out).same (Same.grown g5 fun b hb e => by
                   rcases hb with hb | hb
                   · exact hb
                   · have hb' : b = gN := by cases hb; rfl
                     have := hlow _ e.symm; omega))
                 clear ow5 g5 v5)
              | fail)
            go_roundw
            case rel =>
              refine ⟨n + 1, row.set im n, by omega, by go_num, ?_, A5.out, by rw [List.length_set]; exact HAL.out, HAT2.out, N5.out, z5.out, B5.out⟩
              show Own _ _ _ _ _ _ _
              rw [HTS'.out]
              exact O5.out
            case measure => simp [intOf]; omega
      · obtain rfl : n = (needed l).length := by omega
        go_wp2
        go_ret
        refine ⟨_, rfl, ?_, HB.out⟩
        rw [HT.out]
        exact HO.out.mono (fun b _ hb => Nat.le_trans B2.out.size hb) B2.out.size
  · have HE := Lib.hid he
    clear he
    have HT : Hid (trimL l = l) := if_neg HE.out
    rw [HT.out]
    go_wp2_with (first
      | (go_at_call 16; refine (proof_Needed _ a c l w h hK).mono ?_; rintro e w1 ⟨v, rfl, ho, hb1, hv⟩; obtain rfl := hv HE.out; have HB1 := Lib.hid hb1; clear ho hv hb1)
      | fail)
    go_loopw [3, 19] (fun v i wr => ∃ k : Nat, k ≤ l.length ∧ i = .int .i64 k ∧ Hid (Own kSt 36 (fun b => w.heap.size ≤ b) wr w.heap.size v (l.take k)) ∧ Hid (Below w.heap.size w wr)) (fun _ i _ => l.length - (intOf i).toNat)
    case atStart => exact ⟨0, by omega, rfl, Own.nil _ _ _ _ _, HB1.out⟩
    case round =>
      obtain ⟨k, hk, rfl, HO, HB⟩ := hrel
      obtain ⟨av, cv, hv⟩ := HO.out.form
      rw [List.length_take, Nat.min_eq_left hk] at hv
      subst hv
      by_cases hlt : k < l.length
      · obtain ⟨b, o, p, rfl, hbl, hr, IN⟩ := st_elem h hlt
        have HX : Hid (l.take (k + 1) = l.take k ++ [l[k]]) := List.take_succ_eq_append_getElem hlt
        have hlx := Lib.hid (hL _ (List.getElem_mem hlt))
        have hla : (l.take k).length ≤ 65536 := by rw [List.length_take]; omega
        generalize l[k] = x at *
        obtain ⟨ra, rc, sa, sc, aa, ac, ba, bc⟩ := p
        obtain ⟨i0, i1, i2, i3, i4, i5, i6, i7, i8, i9, i10, i11, i12, i13⟩ := IN.frame (HB.out.block _ hbl)
        have hrl := hr.refs.le
        have hsl := hr.subs.le
        have hal := hr.a.le
        have hbl2 := hr.b.le
        have hr0 := Lib.hid hr
        dsimp only at *
        clear hr IN
        go_wp2_with fail
        have HNW := Lib.hid (heap_alloc_new wr (.cells #[.int .i64 x.kind, .slice ra x.refs.length rc, .int .i64 x.rule, .slice sa x.subs.length sc, .int .i64 x.a.op, .int .i64 x.a.width, .int .u64 x.a.val, .string x.a.name, .slice aa x.a.args.length ac, .int .i64 x.b.op, .int .i64 x.b.width, .int .u64 x.b.val, .string x.b.name, .slice ba x.b.args.length bc] 36))
        have S0 := Lib.hid (Same.alloc (fun _ => True) wr (.cells #[.int .i64 x.kind, .slice ra x.refs.length rc, .int .i64 x.rule, .slice sa x.subs.length sc, .int .i64 x.a.op, .int .i64 x.a.width, .int .u64 x.a.val, .string x.a.name, .slice aa x.a.args.length ac, .int .i64 x.b.op, .int .i64 x.b.width, .int .u64 x.b.val, .string x.b.name, .slice ba x.b.args.length bc] 36))
        have BW0 := Lib.hid (below_alloc HB.out (.cells #[.int .i64 x.kind, .slice ra x.refs.length rc, .int .i64 x.rule, .slice sa x.subs.length sc, .int .i64 x.a.op, .int .i64 x.a.width, .int .u64 x.a.val, .string x.a.name, .slice aa x.a.args.length ac, .int .i64 x.b.op, .int .i64 x.b.width, .int .u64 x.b.val, .string x.b.name, .slice ba x.b.args.length bc] 36))
        have z0 : Hid (wr.heap.size + 1 = (wr.alloc (.cells #[.int .i64 x.kind, .slice ra x.refs.length rc, .int .i64 x.rule, .slice sa x.subs.length sc, .int .i64 x.a.op, .int .i64 x.a.width, .int .u64 x.a.val, .string x.a.name, .slice aa x.a.args.length ac, .int .i64 x.b.op, .int .i64 x.b.width, .int .u64 x.b.val, .string x.b.name, .slice ba x.b.args.length bc] 36)).heap.size) := by show _ = _; simp
        clear i0 i1 i2 i3 i4 i5 i6 i7 i8 i9 i10 i11 i12 i13
        generalize wr.alloc (.cells #[.int .i64 x.kind, .slice ra x.refs.length rc, .int .i64 x.rule, .slice sa x.subs.length sc, .int .i64 x.a.op, .int .i64 x.a.width, .int .u64 x.a.val, .string x.a.name, .slice aa x.a.args.length ac, .int .i64 x.b.op, .int .i64 x.b.width, .int .u64 x.b.val, .string x.b.name, .slice ba x.b.args.length bc] 36) = V0 at *
        have D0 := Lib.hid (st_flat HNW.out)
        have hr1 := Lib.hid (hr0.out.frame (Same.below BW0.out))
        go_region_held3 (fun w' => w'.cell? ⟨wr.heap.size, 0, none⟩ = some (.int .i64 x.kind) ∧ w'.cell? ⟨wr.heap.size, 1, none⟩ = some (.slice ra x.refs.length rc) ∧ w'.cell? ⟨wr.heap.size, 2, none⟩ = some (.int .i64 x.rule) ∧ w'.cell? ⟨wr.heap.size, 3, none⟩ = some (.slice sa x.subs.length sc) ∧ w'.cell? ⟨wr.heap.size, 4, none⟩ = some (.int .i64 x.a.op) ∧ w'.cell? ⟨wr.heap.size, 5, none⟩ = some (.int .i64 x.a.width) ∧ w'.cell? ⟨wr.heap.size, 6, none⟩ = some (.int .u64 x.a.val) ∧ w'.cell? ⟨wr.heap.size, 7, none⟩ = some (.string x.a.name) ∧ w'.cell? ⟨wr.heap.size, 8, none⟩ = some (.slice aa x.a.args.length ac) ∧ w'.cell? ⟨wr.heap.size, 9, none⟩ = some (.int .i64 x.b.op) ∧ w'.cell? ⟨wr.heap.size, 10, none⟩ = some (.int .i64 x.b.width) ∧ w'.cell? ⟨wr.heap.size, 11, none⟩ = some (.int .u64 x.b.val) ∧ w'.cell? ⟨wr.heap.size, 12, none⟩ = some (.string x.b.name) ∧ w'.cell? ⟨wr.heap.size, 13, none⟩ = some (.slice ba x.b.args.length bc)) (first | exact D0.out | exact D1.out | exact D2.out | exact D2a.out _ | exact D3.out)
          (first
          | (go_at_call 37
             refine (sl_Clone S ra rc x.refs _ (by first | exact hr1.out.refs | exact hr1.out.refs.frame (Same.drewN _ _ _)) hlx.out.r).mono ?_
             rintro e w2 ⟨vr, rfl, or2, b2⟩
             obtain ⟨fa, fc, rfl, rr⟩ := or2.rd
             have B2 : Hid (Below V0.heap.size V0 w2) := by first | exact b2 | exact below_both (below_drewN (Below.refl V0.heap.size V0) _) b2
             have D1 := Lib.hid (st_flat ((B2.out.block wr.heap.size (by have := z0.out; omega)).trans HNW.out))
             have RR : Hid (Rd (Kd.int .i64) (fun b => V0.heap.size ≤ b) w2 fa fc x.refs) := rr.mono fun b _ hb => by rcases hb with hb | hb; exact hb.elim; exact hb
             have hr2 := Lib.hid (hr1.out.frame (Same.below B2.out))
             clear or2 b2 rr)
          | (go_at_call 36
             refine (proof_clone' S x ⟨ra, rc, sa, sc, aa, ac, ba, bc⟩ fa fc x.refs w2 hr2.out hlx.out V0.heap.size B2.out.size RR.out).mono ?_
             rintro e w3 ⟨p', rfl, k3, b3⟩
             have B3 := Lib.hid (below_both B2.out b3)
             have D2 := Lib.hid (st_flat ((B3.out.block wr.heap.size (by have := z0.out; omega)).trans HNW.out))
             have D2a := Lib.hid (fun ob => st_flat (block_alloc ((B3.out.block wr.heap.size (by have := z0.out; omega)).trans HNW.out) ob))
             have O3 := Lib.hid ((HO.out.same (S0.out.mono fun _ _ => trivial)).below B3.out)
             have K3 : Hid (kSt.K (fun b => w.heap.size ≤ b ∧ some b ≠ (Value.slice av k cv).ownBlock) w3 (stCells x p') x) := kSt.mono (fun b _ hb => ⟨Nat.le_trans BW0.out.size hb, fun e => by have := (HO.out.lt b e.symm).2; have := z0.out; have hb' : V0.heap.size ≤ b := hb; omega⟩) k3
             have B3' := Lib.hid (below_then BW0.out BW0.out.size B3.out)
             clear k3 b3)
          | ((with_reducible refine gate_s (.tmp 23) (.tmp 29) rfl ?_)
             refine step_append_ev _ rfl (.tmp 23) (.tmp 29) 27 rfl _ _ rfl rfl _ (run_app1 w3 infoSt rfl _ O3.out 36 (stCells x p') x K3.out (by omega) (by omega) B3'.out.size) ?_
             rintro n2 w4 ⟨ow4, g4, v4, _⟩
             have O4 : Hid (Own kSt 36 (fun b => w.heap.size ≤ b) w4 w.heap.size n2 (l.take k ++ [x])) := ow4
             have B4 := Lib.hid (B3'.out.grown g4 B3'.out.size (fun k hk => (HO.out.lt k hk).1))
             have D3 := Lib.hid (st_flat (block_grown g4 ((B3.out.block wr.heap.size (by have := z0.out; omega)).trans HNW.out) (fun e => by have := (HO.out.lt _ e.symm).2; omega)))
             clear ow4 g4 v4)
          | fail)
        go_wp2
        go_roundw
        case rel =>
          refine ⟨k + 1, by omega, by go_num, ?_, B4.out⟩
          show Own _ _ _ _ _ _ _
          rw [HX.out]
          exact O4.out
        case measure => simp [intOf]; omega
      · go_wp2
        go_ret
        obtain rfl : k = l.length := by omega
        have := HO.out
        rw [List.take_length] at this
        exact ⟨_, rfl, this, HB.out⟩
end Go.Proofs.Sat
