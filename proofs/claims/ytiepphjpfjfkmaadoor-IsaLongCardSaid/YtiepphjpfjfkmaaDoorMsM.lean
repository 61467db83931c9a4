/- MsL, MsM, one after the other. -/
import Derived.Test.YtiepphjpfjfkmaaDoorMsK
import Derived.Test.YtiepphjpfjfkmaaDoorOps4
import Derived.Test.YtiepphjpfjfkmaaDoorIsaY
import Derived.Test.YtiepphjpfjfkmaaDoorR8C
import Derived.ArgAppend
set_option linter.unusedVariables false
set_option linter.unusedSimpArgs false
/- One instruction out of its words: isa and the reference. -/
namespace Go.Proofs.Sat
open Go Go.RowKit
/-- A slice of numbers that may begin in the midst of a block of the call's own. -/
def Mid (e : TypeId) (B : Nat) (w : World) (A : Option Addr) (n c : Nat) (xs : List Int) : Prop :=
  xs.length = n ∧ n ≤ c ∧ ((A = none ∧ c = 0) ∨ ∃ g o, A = some ⟨g, o, none⟩ ∧ (0 < c → B ≤ g ∧ ∃ cur, w.heap[g]? = some (.cells cur e (0, 0)) ∧ o + c ≤ cur.size ∧ ∀ j (hj : j < xs.length), cur[o + j]? = some (.int .i64 xs[j])))
theorem below_setCells {B : Nat} {w0 : World} {g : Nat} (hg : B ≤ g) : ∀ (vs : List Value) (o : Nat) (w : World), Below B w0 w → Below B w0 (w.setCells g o vs)
  | [], _, _, h => h
  | v :: r, o, w, h => below_setCells hg r (o + 1) _ (h.setCell hg v)
theorem Own.mid {e : TypeId} {S : Nat → Prop} {w : World} {base : Nat} {A : Option Addr} {n c : Nat} {xs : List Int} (h : Own (Kd.int .i64) e S w base (.slice A n c) xs) : Mid e base w A n c xs := by
  rcases h.block with ⟨h0, hx⟩ | ⟨g, cap, cur, hv, hb, hlt, hg, q1, q2, q3, q4⟩
  · cases h0
    subst hx
    exact ⟨rfl, Nat.le_refl _, .inl ⟨rfl, rfl⟩⟩
  · cases hv
    refine ⟨rfl, q1, .inr ⟨g, 0, rfl, fun _ => ⟨hb, cur, hg, by omega, fun j hj => ?_⟩⟩⟩
    have := congrArg (·[j]?) q4
    simpa [hj] using this
/-- append of some numbers to such a slice. -/
theorem run_app_mid {P : Program} (w : World) {t e : TypeId} {bytes : Nat} (I : ElemInfo P t e (.int .i64 0) 1 bytes) (ty : TypeId) {B : Nat} {A : Option Addr} {n c : Nat} {xs : List Int} (hm : Mid e B w A n c xs) (hB : B ≤ w.heap.size)
    (ad : Addr) (k c' : Nat) (ys : List Int) (hk : ys.length = k) (hk0 : 0 < k) (hys : ∀ j u, (ys.map (Value.int .i64))[j]? = some u → w.cell? (ad.add j) = some u) (hb : (n + k) * bytes ≤ 140737488355328) (h63 : n + k ≤ 9223372036854775807) :
    ∃ v' w', (Builtin.append_ #[t, t] ty #[.slice A n c, .slice (some ad) k c']).run P w = .ok v' w' ∧ ∃ b o d, v' = .slice (some ⟨b, o, none⟩) (n + k) d ∧ B ≤ b ∧ b < w'.heap.size ∧ Below B w w' ∧ ∀ j (hj : j < (xs ++ ys).length), w'.cell? ⟨b, o + j, none⟩ = some (.int .i64 (xs ++ ys)[j]) := by
  obtain ⟨i, hi, h1, h2, h3⟩ := info_parts I.hi
  obtain ⟨hx, hnc, hA⟩ := hm
  have hl : (ys.map (Value.int .i64)).length = k * i.size := by rw [List.length_map, hk, h2, Nat.mul_one]
  have hone : ∀ u ∈ ys.map (Value.int .i64), u.oneCell' = true := by
    intro u hu
    obtain ⟨y, -, rfl⟩ := List.mem_map.1 hu
    rfl
  have fin : ∀ v' w', w'.ownsRow B e 1 v' (n + k) (xs.map (Value.int .i64) ++ ys.map (Value.int .i64)) → Below B w w' → ∃ b o d, v' = .slice (some ⟨b, o, none⟩) (n + k) d ∧ B ≤ b ∧ b < w'.heap.size ∧ Below B w w' ∧ ∀ j (hj : j < (xs ++ ys).length), w'.cell? ⟨b, o + j, none⟩ = some (.int .i64 (xs ++ ys)[j]) := by
    intro v' w' ho hbw
    rw [← List.map_append] at ho
    have hnk : n + k = (xs ++ ys).length := by rw [List.length_append]; omega
    rw [hnk] at ho
    have O : Own (Kd.int .i64) e NoS w' B v' (xs ++ ys) := ⟨_, ho, elems_vals _⟩
    rcases O.block with ⟨h0, hx0⟩ | ⟨g, cap, cur, rfl, hg, hlt, -⟩
    · rw [hx0] at hnk; simp at hnk; omega
    · refine ⟨g, 0, cap, by rw [hnk], hg, hlt, hbw, fun j hj => ?_⟩
      rw [Nat.zero_add]
      exact (O.at rfl).1 j hj
  rcases hA with ⟨rfl, rfl⟩ | ⟨g, o, rfl, hc⟩
  · have hn : n = 0 := by omega
    subst hn
    obtain rfl : xs = [] := List.eq_nil_of_length_eq_zero hx
    obtain ⟨v', w', hr, ho, hg, -, -⟩ := run_append_own_at (P := P) w B t ty e i _ 1 bytes I.ht hi h1 h2 h3 rfl (by omega) (.slice none 0 0) 0 [] (World.ownsRow_nil ..) ad k c' (ys.map (Value.int .i64)) (by rw [hl, h2]) hys hone (by simpa [maxLen] using h63) hb hB
    exact ⟨v', w', hr, fin v' w' (by simpa using ho) ((Below.refl B w).grown hg hB (fun k hk => by cases hk))⟩
  · by_cases hroom : n + k ≤ c
    · obtain ⟨hg, cur, hcur, hsz, hcs⟩ := hc (by omega)
      have hlt := (Array.getElem?_eq_some_iff.1 hcur).1
      have hcell : ∀ j, j < k → (w.cell? ⟨g, o + n + j, none⟩).isSome = true := by
        intro j hj
        rw [cell_of_row _ _ _ _ _ _ hcur]
        simp; omega
      have hr := run_append_room_cells (P := P) w t ty e i I.ht hi g o n c ad k c' (ys.map (Value.int .i64)) hl hys hone hroom
        (fun j hj => by rw [h2, Nat.mul_one]; exact hcell j (by simpa [hk] using hj)) (fun j hj => frozen_of_block hcur)
      rw [h2, Nat.mul_one] at hr
      refine ⟨_, _, hr, g, o, c, rfl, hg, ?_, below_setCells hg _ _ _ (Below.refl _ _), fun j hj => ?_⟩
      · exact Nat.lt_of_lt_of_le hlt (below_setCells hg _ _ _ (Below.refl B w)).size
      · rw [List.length_append] at hj
        rcases Nat.lt_or_ge j n with hjn | hjn
        · rw [World.cell?_setCells_out g _ _ _ _ (fun _ _ => Or.inl (by show o + j < o + n; omega)), List.getElem_append_left (by omega), cell_of_row _ _ _ _ _ _ hcur]
          exact hcs j (by omega)
        · have := World.cell?_setCells_in g (ys.map (Value.int .i64)) (o + n) w (fun j hj => hcell j (by simpa [hk] using hj)) (j - n) (by simp; omega)
          rw [show o + n + (j - n) = o + j by omega] at this
          rw [this, List.getElem_append_right (by omega), List.getElem_map]
          congr 2
          subst hx
          rfl
    · have holds : ∀ j u, (xs.map (Value.int .i64))[j]? = some u → w.cell? ((⟨g, o, none⟩ : Addr).add j) = some u := by
        intro j u hu
        have hj : j < xs.length := by
          have := (List.getElem?_eq_some_iff.1 hu).1
          simpa using this
        obtain ⟨hg, cur, hcur, hsz, hcs⟩ := hc (by omega)
        rw [add_plain, cell_of_row _ _ _ _ _ _ hcur, hcs j hj]
        rw [← hu]
        simp [hj]
      obtain ⟨v', w', hr, ho, hg⟩ := run_append_arg_grows (P := P) w t ty e i _ 1 bytes I.ht hi h1 h2 h3 rfl (by omega) ⟨g, o, none⟩ n c (xs.map (Value.int .i64)) (by simp [hx]) holds ad k c' (ys.map (Value.int .i64)) (by rw [hl, h2]) hys (by omega) (by simpa [maxLen] using h63) hb
      exact ⟨v', w', hr, fin v' w' ⟨ho.1, ho.2.imp id fun ⟨g, cap, cur, e1, e2, e3⟩ => ⟨g, cap, cur, e1, Nat.le_trans hB e2, e3⟩⟩ ((Below.refl B w).grown hg hB (fun k hk => by cases hk))⟩
/-- What l[1:] is. -/
theorem Mid.tail {e : TypeId} {B : Nat} {w : World} {A A' : Option Addr} {n c : Nat} {x : Int} {xs : List Int} (h : Mid e B w A (n + 1) c (x :: xs)) (hA : ∀ b o, A = some ⟨b, o, none⟩ → A' = some ⟨b, o, none⟩ ∧ c = 1 ∨ A' = some ⟨b, o + 1, none⟩ ∧ 1 < c) : Mid e B w A' n (c - 1) xs := by
  obtain ⟨hx, hc, hh⟩ := h
  refine ⟨by simpa using hx, by omega, ?_⟩
  rcases hh with ⟨-, rfl⟩ | ⟨g, o, rfl, hr⟩
  · omega
  · rcases hA g o rfl with ⟨rfl, rfl⟩ | ⟨rfl, h1⟩
    · exact .inr ⟨g, o, rfl, fun h => by omega⟩
    · obtain ⟨hg, cur, hcur, hsz, hcs⟩ := hr (by omega)
      refine .inr ⟨g, o + 1, rfl, fun _ => ⟨hg, cur, hcur, by omega, fun j hj => ?_⟩⟩
      have := hcs (j + 1) (by simpa using hj)
      rw [show o + 1 + j = o + (j + 1) by omega]
      simpa using this
theorem six_set {w : World} {g : Nat} {t : TypeId} {v0 v1 v2 v3 v4 v5 : Value} (h : w.heap[g]? = some (.cells #[v0, v1, v2, v3, v4, v5] t (0, 0))) (u0 u1 u2 u3 u4 u5 : Value) :
    ((((((w.setCell ⟨g, 0, none⟩ u0).setCell ⟨g, 1, none⟩ u1).setCell ⟨g, 2, none⟩ u2).setCell ⟨g, 3, none⟩ u3).setCell ⟨g, 4, none⟩ u4).setCell ⟨g, 5, none⟩ u5).heap[g]? = some (.cells #[u0, u1, u2, u3, u4, u5] t (0, 0)) := by
  simp [World.setCell, Array.getElem?_modify, h]
theorem six_below {B : Nat} {w0 w : World} {g : Nat} (h : Below B w0 w) (hg : B ≤ g) (u0 u1 u2 u3 u4 u5 : Value) : Below B w0 ((((((w.setCell ⟨g, 0, none⟩ u0).setCell ⟨g, 1, none⟩ u1).setCell ⟨g, 2, none⟩ u2).setCell ⟨g, 3, none⟩ u3).setCell ⟨g, 4, none⟩ u4).setCell ⟨g, 5, none⟩ u5) :=
  (((((h.setCell hg _).setCell hg _).setCell hg _).setCell hg _).setCell hg _).setCell hg _
/-- What the registers behind the operation give. -/
def tailW (q im : Int) (g : Bool) (l : List (List UInt8)) : Option In := if g = true then (regsW l).bind fun X => if (X.length : Int) = srcN q + (if q = 0 then 0 else 1) then some ⟨q, X.getD 0 0, X.getD 1 0, X.getD 2 0, X.getD 3 0, im⟩ else none else none
theorem mov_tail {d v : List UInt8} {m : Int} (hm : ∀ x, immW v = some x → m = x) : movW [d, v] = tailW 1 m (immW v).isSome [d] := by
  have h1 : srcN 1 = 0 := by decide
  rw [tailW, movW, regsW]
  cases hv : immW v with
  | none => cases regW d <;> simp [regsW]
  | some x =>
    rw [hm x hv]
    cases regW d <;> simp [h1, regsW]
theorem mov_not {l : List (List UInt8)} (h : l.length ≠ 2) : movW l = none := by
  unfold movW
  split
  · rename_i hs; simp at h
  · rfl
theorem oth_tail (q : Int) (l : List (List UInt8)) : othW q l = tailW q 0 true l := by
  unfold tailW othW
  cases regsW l <;> rfl
theorem tail_no {q im : Int} {l : List (List UInt8)} : tailW q im false l = none := rfl
theorem tail_none {q im : Int} {g : Bool} {l : List (List UInt8)} (h : regsW l = none) : tailW q im g l = none := by
  unfold tailW; rw [h]; cases g <;> rfl
theorem tail_some {q im : Int} {l : List (List UInt8)} {X : List Int} (h : regsW l = some X) : tailW q im true l = if (X.length : Int) = srcN q + (if q = 0 then 0 else 1) then some ⟨q, X.getD 0 0, X.getD 1 0, X.getD 2 0, X.getD 3 0, im⟩ else none := by
  unfold tailW; rw [h]; rfl
theorem same_set {S : Nat → Prop} {w : World} {g i : Nat} (hS : ∀ b, S b → b ≠ g) (v : Value) : Same S w (w.setCell ⟨g, i, none⟩ v) := ⟨by simp [World.setCell], fun b hb _ => Below.heap_setCell w _ v b (hS b hb)⟩
theorem six_5 {w : World} {g : Nat} {t : TypeId} {v0 v1 v2 v3 v4 v5 : Value} (h : w.heap[g]? = some (.cells #[v0, v1, v2, v3, v4, v5] t (0, 0))) (u : Value) : (w.setCell ⟨g, 5, none⟩ u).heap[g]? = some (.cells #[v0, v1, v2, v3, v4, u] t (0, 0)) := by
  simp [World.setCell, Array.getElem?_modify, h]
theorem six_1 {w : World} {g : Nat} {t : TypeId} {v0 v1 v2 v3 v4 v5 : Value} (h : w.heap[g]? = some (.cells #[v0, v1, v2, v3, v4, v5] t (0, 0))) (u : Value) : (w.setCell ⟨g, 1, none⟩ u).heap[g]? = some (.cells #[v0, u, v2, v3, v4, v5] t (0, 0)) := by
  simp [World.setCell, Array.getElem?_modify, h]
theorem six_2 {w : World} {g : Nat} {t : TypeId} {v0 v1 v2 v3 v4 v5 : Value} (h : w.heap[g]? = some (.cells #[v0, v1, v2, v3, v4, v5] t (0, 0))) (u : Value) : (w.setCell ⟨g, 2, none⟩ u).heap[g]? = some (.cells #[v0, v1, u, v3, v4, v5] t (0, 0)) := by
  simp [World.setCell, Array.getElem?_modify, h]
theorem six_3 {w : World} {g : Nat} {t : TypeId} {v0 v1 v2 v3 v4 v5 : Value} (h : w.heap[g]? = some (.cells #[v0, v1, v2, v3, v4, v5] t (0, 0))) (u : Value) : (w.setCell ⟨g, 3, none⟩ u).heap[g]? = some (.cells #[v0, v1, v2, u, v4, v5] t (0, 0)) := by
  simp [World.setCell, Array.getElem?_modify, h]
theorem six_4 {w : World} {g : Nat} {t : TypeId} {v0 v1 v2 v3 v4 v5 : Value} (h : w.heap[g]? = some (.cells #[v0, v1, v2, v3, v4, v5] t (0, 0))) (u : Value) : (w.setCell ⟨g, 4, none⟩ u).heap[g]? = some (.cells #[v0, v1, v2, v3, u, v5] t (0, 0)) := by
  simp [World.setCell, Array.getElem?_modify, h]
theorem cut_one_at {P : Program} {t e : TypeId} {z : Value} {bytes : Nat} (I : ElemInfo P t e z 1 bytes) (g o n c : Nat) (hc : n + 1 ≤ c) :
    ∃ A' : Option Addr, (∀ W : World, (Instr.slice t (.slice (some ⟨g, o, none⟩) (n + 1) c) (some (.int .i64 1)) none none).run P W = .ok (.slice A' n (c - 1)) W) ∧ (A' = some ⟨g, o, none⟩ ∧ c = 1 ∨ A' = some ⟨g, o + 1, none⟩ ∧ 1 < c) := by
  obtain ⟨i, hi, h2, h3, h4⟩ := info_parts I.hi
  refine ⟨if c = 1 then some ⟨g, o, none⟩ else some ⟨g, o + 1, none⟩, fun W => ?_, ?_⟩
  · have hel : P.elem t = e := by simp [Program.elem, I.ht]
    have hu : P.underlying t = some (.slice (P.elem t)) := by rw [hel]; exact I.ht
    rw [run_slice_l W t _ (n + 1) c hu .i64 1 (by omega) (by omega), hel]
    simp [sizeOf, typeInfo, hi, h3, sliced, Result.andThen, add_plain]
  · by_cases h : c = 1
    · exact .inl ⟨if_pos h, h⟩
    · exact .inr ⟨if_neg h, by omega⟩
theorem two_of {α : Type} {l : List α} (h : l.length = 2) : ∃ a b, l = [a, b] := by
  match l, h with
  | [a, b], _ => exact ⟨a, b, rfl⟩
abbrev z6 (q : Int) : Array Value := #[.int .i64 q, .int .i64 0, .int .i64 0, .int .i64 0, .int .i64 0, .int .u64 0]
theorem Mid.of_same {e : TypeId} {B : Nat} {w w' : World} {A : Option Addr} {n c : Nat} {xs : List Int} (h : Mid e B w A n c xs) (hs : ∀ b, B ≤ b → b < w.heap.size → w'.heap[b]? = w.heap[b]?) : Mid e B w' A n c xs := by
  obtain ⟨h1, h2, h3⟩ := h
  refine ⟨h1, h2, h3.imp id ?_⟩
  rintro ⟨g, o, e1, h4⟩
  refine ⟨g, o, e1, fun hc => ?_⟩
  obtain ⟨hg, cur, hcur, h5⟩ := h4 hc
  exact ⟨hg, cur, (hs g hg (Array.getElem?_eq_some_iff.1 hcur).1).trans hcur, h5⟩
theorem getD_three (r : List Int) (j : Nat) (h : j < (r ++ [0, 0, 0]).length) : (r ++ [0, 0, 0])[j] = r.getD j 0 := by
  rw [List.length_append] at h
  rcases Nat.lt_or_ge j r.length with hj | hj
  · rw [List.getElem_append_left hj, List.getD_eq_getElem?_getD, List.getElem?_eq_getElem hj]
    rfl
  · rw [List.getElem_append_right hj, List.getD_eq_getElem?_getD, List.getElem?_eq_none hj]
    have : j - r.length = 0 ∨ j - r.length = 1 ∨ j - r.length = 2 := by simp at h; omega
    rcases this with e | e | e <;> simp [e]
set_option maxRecDepth 20000 in
set_option maxHeartbeats 4000000 in
theorem isa_instruction (S : Nat → Prop) (a : Option Addr) (c : Nat) (p : List UInt8) (rest : List (List UInt8)) (w : World) (hT : DigT w) (hN : NamT w) (hK : IsaT w) (hR : RdW S w a c (p :: rest)) (hW : WordsOK (p :: rest)) :
    Calls Tryd.prog 22 #[.slice a (rest.length + 1) c] w fun e w' => ∃ v, e = .returned (.tuple #[v, .bool (insW (p :: rest)).isSome]) ∧ (∃ x : In, v = inVal x) ∧ (∀ y, insW (p :: rest) = some y → v = inVal y) ∧ Below w.heap.size w w' := by
  have HR := Lib.hid hR
  have HT := Lib.hid hT
  have HN := Lib.hid hN
  have HK := Lib.hid hK
  have HW := Lib.hid hW
  have CO := Lib.hid (fun (W : World) (h : Below w.heap.size w W) => isa_Of p W (hN.below h) (hK.below h))
  have HC := Lib.hid hR.1
  have hc1 : rest.length + 1 ≤ c := by have := hR.1; simpa using this
  obtain ⟨A1, hcut1, hA1⟩ := cut_off Kd.str infoStr rfl a (rest.length + 1) c 1 1 rfl (by omega)
  obtain ⟨b, o, rfl, d0⟩ := RdW.at (k := 0) (hR.frame (Same.alloc _ w (.cells #[.int .i64 0, .int .i64 0, .int .i64 0, .int .i64 0, .int .i64 0, .int .u64 0] 25))) (by simp)
  simp only [List.getElem_cons_zero, Nat.add_zero] at d0
  have R1 := Lib.hid (hA1 _ w _ (by simp) hR.lt)
  clear hR hW hT hN hK hA1
  obtain ⟨n, hn⟩ : ∃ n, n = rest.length := ⟨_, rfl⟩
  have HNN := Lib.hid hn
  rw [← hn] at hcut1 hc1 ⊢
  clear hn
  have hnl : n ≤ 1000000000 := by rw [HNN.out]; have := HW.out.1; simp at this; omega
  have hs1 : n + 1 - 1 = n := by omega
  rw [hs1] at hcut1
  clear hs1
  go_enter Tryd.func22, Tryd.ntmps22
  have B0 := Lib.hid (below_alloc (Below.refl w.heap.size w) (.cells #[.int .i64 0, .int .i64 0, .int .i64 0, .int .i64 0, .int .i64 0, .int .u64 0] 25))
  go_wp2_with fail
  refine (CO.out _ B0.out).mono ?_
  rintro e w1 ⟨rfl, b1⟩
  have B1 := Lib.hid (below_both B0.out b1)
  have KR1 := Lib.hid (block_below b1 (heap_alloc_new w _))
  clear b1 B0 d0
  by_cases h0 : 0 ≤ ofI p
  case neg =>
    have HE : Hid (insW (p :: rest) = none) := by show _ = _; rw [insW, if_pos (by omega)]
    have t0 : decide (0 ≤ ofI p) = false := decide_eq_false h0
    rw [t0]
    clear t0 h0
    generalize ofD p = q at *
    have KR2 := Lib.hid (block_alloc KR1.out (.cells #[.int .i64 q, .int .i64 0, .int .i64 0, .int .i64 0, .int .i64 0, .int .u64 0] 25))
    obtain ⟨y0, y1, y2, y3, y4, y5⟩ := in_block KR2.out
    have yf : ∀ i, (w1.alloc (.cells #[.int .i64 q, .int .i64 0, .int .i64 0, .int .i64 0, .int .i64 0, .int .u64 0] 25)).frozen? ⟨w.heap.size, i, none⟩ = false := fun i => frozen_of_block KR2.out
    go_wp2_with fail
    refine bodyPost_ret_block2 (cs := #[.int .i64 q, .int .i64 0, .int .i64 0, .int .i64 0, .int .i64 0, .int .u64 0]) w.heap.size (0, 0) _ rfl rfl rfl (six_set KR2.out _ _ _ _ _ _) Tryd.underlying25 rfl (by kernel_rfl) rfl ⟨_, by rw [HE.out]; rfl, ⟨⟨_, _, _, _, _, _⟩, rfl⟩, fun y hy => (by rw [HE.out] at hy; cases hy), six_below (below_alloc B1.out _) (Nat.le_refl _) _ _ _ _ _ _⟩
  have e0 : ofD p = ofI p := if_pos h0
  have t0 : decide (0 ≤ ofI p) = true := decide_eq_true h0
  rw [e0, t0]
  clear e0 t0
  have HI : Hid (insW (p :: rest) = if ofI p = 1 then movW rest else othW (ofI p) rest) := by show _ = _; rw [insW, if_neg (by omega)]
  have hkn := (ofI_text (l := p) (by omega)).1
  have HS := Lib.hid (srcN_known hkn)
  have HS3 := Lib.hid (srcN_le (ofI p)).2
  obtain ⟨O, hO⟩ : ∃ O, O = insW (p :: rest) := ⟨_, rfl⟩
  rw [← hO] at HI
  have HO := Lib.hid hO
  clear hO
  generalize ofI p = q at *
  clear hkn
  clear CO
  have KR2 := Lib.hid (block_alloc KR1.out (.cells #[.int .i64 q, .int .i64 0, .int .i64 0, .int .i64 0, .int .i64 0, .int .u64 0] 25))
  have KX2 := Lib.hid (heap_alloc_new w1 (.cells #[.int .i64 q, .int .i64 0, .int .i64 0, .int .i64 0, .int .i64 0, .int .u64 0] 25))
  have B2 := Lib.hid (below_alloc B1.out (.cells #[.int .i64 q, .int .i64 0, .int .i64 0, .int .i64 0, .int .i64 0, .int .u64 0] 25))
  have hgr : w.heap.size < w1.heap.size := (Array.getElem?_eq_some_iff.1 KR1.out).1
  obtain ⟨gx, hgx⟩ : ∃ gx, gx = w1.heap.size := ⟨_, rfl⟩
  go_upto_region 6 with fail
  rw [← hgx] at hgr KX2 ⊢
  obtain ⟨W2, hW2⟩ : ∃ W2, W2 = w1.alloc (.cells #[.int .i64 q, .int .i64 0, .int .i64 0, .int .i64 0, .int .i64 0, .int .u64 0] 25) := ⟨_, rfl⟩
  rw [← hW2] at KR2 KX2 B2 ⊢
  clear hW2 hgx KR1 B1
  have R2 : Hid (RdW (fun b => b < w.heap.size) W2 A1 (c - 1) rest) := (show Rd Kd.str (fun b => b < w.heap.size) w A1 (c - 1) (rest.map strOf) by simpa using R1.out).frame (Same.below B2.out)
  clear R1 HR HC
  go_upto_if 26 with fail
  go_cut [5, 7] (fun s5 s7 wx => ∃ (g : Bool) (im : Int) (ws : List (List UInt8)) (A : Option Addr) (c' m : Nat), s5 = .bool g ∧ s7 = .slice A m c' ∧ Hid (m = ws.length) ∧ Hid (RdW (fun b => b < w.heap.size) wx A c' ws) ∧ Hid (WordsOK ws) ∧ Hid (wx.heap[gx]? = some (.cells #[.int .i64 q, .int .i64 0, .int .i64 0, .int .i64 0, .int .i64 0, .int .u64 im] 25 (0, 0))) ∧ Hid (wx.heap[w.heap.size]? = some (.cells #[.int .i64 0, .int .i64 0, .int .i64 0, .int .i64 0, .int .i64 0, .int .u64 0] 25 (0, 0))) ∧ Hid (Below w.heap.size w wx) ∧ Hid (O = tailW q im g ws))
  case first =>
    by_cases hq : q = 1
    · subst hq
      rw [if_pos rfl] at HI
      by_cases h2 : n = 2
      · subst h2
        obtain ⟨d, v, rfl⟩ := two_of HNN.out.symm
        have hwv := HW.out.2 v (by simp)
        obtain ⟨b1, o1, rfl, d1⟩ := R2.out.at (k := 1) (by simp)
        simp only [List.getElem_cons_zero, List.getElem_cons_succ] at d1
        obtain ⟨A2, hcut2, hA2⟩ := cut_to Kd.str infoStr rfl (some ⟨b1, o1, none⟩) 2 (c - 1) 1 1 rfl (by omega)
        go_wp2_with fail
        refine (isa_immediate v W2 hwv (HT.out.below B2.out)).mono ?_
        rintro e w3 ⟨m, rfl, hm, b3⟩
        have HE := Lib.hid (HI.out.trans (mov_tail (d := d) hm))
        generalize (immW v).isSome = g at *
        have KX3 := Lib.hid (block_below b3 KX2.out)
        have KR3 := Lib.hid (block_below b3 KR2.out)
        have B3 := Lib.hid (below_both B2.out b3)
        have R3 := Lib.hid (hA2 _ w3 _ (by simp) (R2.out.frame (Same.below b3)))
        obtain ⟨x0, x1, x2, x3, x4, x5⟩ := in_block KX3.out
        have xf : ∀ i, w3.frozen? ⟨gx, i, none⟩ = false := fun i => frozen_of_block KX3.out
        clear b3 hm d1 HI hA2
        go_wp2_with fail
        go_meet
        case rel => exact ⟨g, m, [d], A2, c - 1, 1, rfl, rfl, rfl, R3.out.frame (same_set (fun b hb => by omega) _), ⟨by simp, fun x hx => HW.out.2 x (by simp at hx; simp [hx])⟩, six_5 KX3.out _, block_far KR3.out _ (by show w.heap.size ≠ gx; omega), B3.out.setCell (by show w.heap.size ≤ gx; omega) _, HE.out⟩
      · have HE : Hid (O = none) := by show _ = _; rw [HI.out]; exact mov_not (by rw [← HNN.out]; exact h2)
        have t2 : ((n : Int) != 2) = true := by rw [bne_iff_ne]; omega
        obtain ⟨y0, y1, y2, y3, y4, y5⟩ := in_block KR2.out
        obtain ⟨x0, x1, x2, x3, x4, x5⟩ := in_block KX2.out
        have yf : ∀ i, W2.frozen? ⟨w.heap.size, i, none⟩ = false := fun i => frozen_of_block KR2.out
        clear h2
        go_wp2_with fail
        refine bodyPost_ret_block2 (cs := #[.int .i64 1, .int .i64 0, .int .i64 0, .int .i64 0, .int .i64 0, .int .u64 0]) w.heap.size (0, 0) _ rfl rfl rfl (six_set KR2.out _ _ _ _ _ _) Tryd.underlying25 rfl (by kernel_rfl) rfl ⟨_, by rw [← HO.out, HE.out]; rfl, ⟨⟨_, _, _, _, _, _⟩, rfl⟩, fun y hy => (by rw [← HO.out, HE.out] at hy; cases hy), six_below B2.out (Nat.le_refl _) _ _ _ _ _ _⟩
    · have t1 : (q == 1) = false := by rw [beq_eq_false_iff_ne]; exact hq
      rw [if_neg hq] at HI
      go_wp2_with fail
      go_meet
      case rel => exact ⟨true, 0, rest, A1, c - 1, n, rfl, rfl, HNN.out, R2.out, ⟨by have := HW.out.1; simp at this; omega, fun x hx => HW.out.2 x (by simp [hx])⟩, KX2.out, KR2.out, B2.out, by show _ = _; rw [HI.out]; exact oth_tail _ _⟩
  case rest =>
    obtain ⟨g, im, ws, A, c', m, rfl, rfl, HM, R3, HW3, KX3, KR3, B3, HT3⟩ := hcut
    obtain ⟨W3, hW3⟩ : ∃ W3, W3 = wc := ⟨_, rfl⟩
    subst hW3
    have CR := Lib.hid (isa_registers _ A c' ws W3 (HT.out.below B3.out) R3.out HW3.out)
    rw [← HM.out] at CR
    have HK3 := Lib.hid (HK.out.below B3.out)
    clear HI HM R3 HW3
    have HTN := Lib.hid (fun h => tail_none (q := q) (im := im) (g := g) (l := ws) h)
    have HTS := Lib.hid (fun X h => tail_some (q := q) (im := im) (l := ws) (X := X) h)
    have HTF := Lib.hid (tail_no (q := q) (im := im) (l := ws))
    go_wp2_with fail
    cases hX : regsW ws with
    | none =>
      have HE := Lib.hid (HT3.out.trans (HTN.out hX))
      have CR2 : Hid (Calls Tryd.prog 21 #[.slice A m c'] W3 fun e w' => ∃ a4 c4, e = .returned (.tuple #[.slice a4 0 c4, .bool false]) ∧ Below W3.heap.size W3 w') := by
        refine CR.out.mono ?_
        rintro e w4 ⟨v, he, o4, b4⟩
        obtain ⟨a4, c4, rfl⟩ := o4.form
        rw [hX] at he
        exact ⟨a4, c4, he, b4⟩
      refine CR2.out.mono ?_
      rintro e w4 ⟨a4, c4, rfl, b4⟩
      have B4 := Lib.hid (below_both B3.out b4)
      have KX4 := Lib.hid (block_below b4 KX3.out)
      have KR4 := Lib.hid (block_below b4 KR3.out)
      have HK4 := Lib.hid (HK3.out.below b4)
      clear b4 CR CR2 hX
      obtain ⟨nn, hnn⟩ : ∃ nn, nn = srcN q := ⟨_, rfl⟩
      have CS : Hid (∀ W, IsaT W → Calls Tryd.prog 14 #[.int .i64 q] W fun e w' => e = .returned (.int .i64 nn) ∧ Drawn W w') := fun W hW => by rw [hnn]; exact isa_Sources q W hW
      have hn1 : 0 ≤ nn := by rw [hnn]; exact HS.out
      have hn3 : nn ≤ 3 := by rw [hnn]; exact HS3.out
      clear hnn
      by_cases hq : q = 0
      · have t1 : (q != 0) = false := by rw [bne_eq_false_iff_eq]; exact hq
        clear hq
        cases g
        all_goals
          go_wp2_with fail
          refine (CS.out w4 HK4.out).mono ?_
          rintro e w5 ⟨rfl, ds⟩
          have KX5 := Lib.hid (ds.heap KX4.out)
          have KR5 := Lib.hid (ds.heap KR4.out)
          have B5 := Lib.hid (B4.out.trans (ds.below _))
          obtain ⟨x0, x1, x2, x3, x4, x5⟩ := in_block KX5.out
          obtain ⟨y0, y1, y2, y3, y4, y5⟩ := in_block KR5.out
          have xf : ∀ i, w5.frozen? ⟨gx, i, none⟩ = false := fun i => frozen_of_block KX5.out
          have yf : ∀ i, w5.frozen? ⟨w.heap.size, i, none⟩ = false := fun i => frozen_of_block KR5.out
          go_wp2_with fail
          refine bodyPost_ret_block2 (cs := #[.int .i64 q, .int .i64 0, .int .i64 0, .int .i64 0, .int .i64 0, .int .u64 im]) w.heap.size (0, 0) _ rfl rfl rfl (six_set KR5.out _ _ _ _ _ _) Tryd.underlying25 rfl (by kernel_rfl) rfl ⟨_, by rw [← HO.out, HE.out]; rfl, ⟨⟨_, _, _, _, _, _⟩, rfl⟩, fun y hy => (by rw [← HO.out, HE.out] at hy; cases hy), six_below B5.out (Nat.le_refl _) _ _ _ _ _ _⟩
      · have t1 : (q != 0) = true := by rw [bne_iff_ne]; exact hq
        clear hq
        cases g
        all_goals
          go_wp2_with fail
          refine (CS.out w4 HK4.out).mono ?_
          rintro e w5 ⟨rfl, ds⟩
          have KX5 := Lib.hid (ds.heap KX4.out)
          have KR5 := Lib.hid (ds.heap KR4.out)
          have B5 := Lib.hid (B4.out.trans (ds.below _))
          obtain ⟨x0, x1, x2, x3, x4, x5⟩ := in_block KX5.out
          obtain ⟨y0, y1, y2, y3, y4, y5⟩ := in_block KR5.out
          have xf : ∀ i, w5.frozen? ⟨gx, i, none⟩ = false := fun i => frozen_of_block KX5.out
          have yf : ∀ i, w5.frozen? ⟨w.heap.size, i, none⟩ = false := fun i => frozen_of_block KR5.out
          go_wp2_with fail
          refine bodyPost_ret_block2 (cs := #[.int .i64 q, .int .i64 0, .int .i64 0, .int .i64 0, .int .i64 0, .int .u64 im]) w.heap.size (0, 0) _ rfl rfl rfl (six_set KR5.out _ _ _ _ _ _) Tryd.underlying25 rfl (by kernel_rfl) rfl ⟨_, by rw [← HO.out, HE.out]; rfl, ⟨⟨_, _, _, _, _, _⟩, rfl⟩, fun y hy => (by rw [← HO.out, HE.out] at hy; cases hy), six_below B5.out (Nat.le_refl _) _ _ _ _ _ _⟩
    | some X =>
      have CR2 : Hid (Calls Tryd.prog 21 #[.slice A m c'] W3 fun e w' => ∃ a4 c4, e = .returned (.tuple #[.slice a4 X.length c4, .bool true]) ∧ Own (Kd.int .i64) 3 NoS w' W3.heap.size (.slice a4 X.length c4) X ∧ Below W3.heap.size W3 w') := by
        refine CR.out.mono ?_
        rintro e w4 ⟨v, he, o4, b4⟩
        rw [hX] at he o4
        obtain ⟨a4, c4, rfl⟩ := o4.form
        exact ⟨a4, c4, he, o4, b4⟩
      have HTX := Lib.hid (HTS.out X hX)
      refine CR2.out.mono ?_
      rintro e w4 ⟨a4, c4, rfl, o4, b4⟩
      have O4 := Lib.hid o4
      have HB4 := Lib.hid b4.size
      have B4 := Lib.hid (below_both B3.out b4)
      have KX4 := Lib.hid (block_below b4 KX3.out)
      have KR4 := Lib.hid (block_below b4 KR3.out)
      have HK4 := Lib.hid (HK3.out.below b4)
      clear b4 o4 CR CR2 hX
      obtain ⟨nn, hnn⟩ : ∃ nn, nn = srcN q := ⟨_, rfl⟩
      have CS : Hid (∀ W, IsaT W → Calls Tryd.prog 14 #[.int .i64 q] W fun e w' => e = .returned (.int .i64 nn) ∧ Drawn W w') := fun W hW => by rw [hnn]; exact isa_Sources q W hW
      have hn1 : 0 ≤ nn := by rw [hnn]; exact HS.out
      have hn3 : nn ≤ 3 := by rw [hnn]; exact HS3.out
      rw [← hnn] at HTX
      have HN0 : Hid (q = 0 → nn = 0) := fun h => by rw [hnn, h]; decide
      clear hnn
      obtain ⟨N, hN⟩ : ∃ N : Int, N = nn + if q = 0 then 0 else 1 := ⟨_, rfl⟩
      rw [← hN] at HTX
      have HNV := Lib.hid hN
      have hN3 : N ≤ 4 := by rw [hN]; split <;> omega
      have hN0 : 0 ≤ N := by rw [hN]; split <;> omega
      clear hN
      obtain ⟨xl, hxl⟩ : ∃ xl, xl = X.length := ⟨_, rfl⟩
      have HXL := Lib.hid hxl
      rw [← hxl] at O4 HTX ⊢
      clear hxl
      go_wp2_with fail
      refine (CS.out w4 HK4.out).mono ?_
      rintro e w5 ⟨rfl, ds⟩
      have KX5 := Lib.hid (ds.heap KX4.out)
      have KR5 := Lib.hid (ds.heap KR4.out)
      have B5 := Lib.hid (B4.out.trans (ds.below _))
      have O5 := Lib.hid (O4.out.drawn ds)
      have HB5 : Hid (W3.heap.size ≤ w5.heap.size) := by show _ ≤ _; rw [ds.size]; exact HB4.out
      have HGX3 : Hid (gx < W3.heap.size) := (Array.getElem?_eq_some_iff.1 KX3.out).1
      clear ds
      go_upto_if 49 with fail
      go_cut [10] (fun s wx => s = .int .i64 N ∧ wx = w5)
      case first =>
        by_cases hq : q = 0
        · have t1 : (q != 0) = false := by rw [bne_eq_false_iff_eq]; exact hq
          go_wp2_with fail
          go_meet
          case rel => exact ⟨by rw [HNV.out, if_pos hq, Int.add_zero], rfl⟩
        · have t1 : (q != 0) = true := by rw [bne_iff_ne]; exact hq
          go_wp2_with fail
          go_meet
          case rel => exact ⟨by rw [HNV.out, if_neg hq], rfl⟩
      case rest =>
        obtain ⟨rfl, hwx⟩ := hcut
        subst hwx
        obtain ⟨W5, hW5⟩ : ∃ W5, W5 = wc := ⟨_, rfl⟩
        subst hW5
        obtain ⟨x0, x1, x2, x3, x4, x5⟩ := in_block KX5.out
        obtain ⟨y0, y1, y2, y3, y4, y5⟩ := in_block KR5.out
        have yf : ∀ i, W5.frozen? ⟨w.heap.size, i, none⟩ = false := fun i => frozen_of_block KR5.out
        have xf : ∀ i, W5.frozen? ⟨gx, i, none⟩ = false := fun i => frozen_of_block KX5.out
        cases g with
        | false =>
          have HE : Hid (O = none) := HT3.out.trans HTF.out
          go_wp2_with fail
          refine bodyPost_ret_block2 (cs := #[.int .i64 q, .int .i64 0, .int .i64 0, .int .i64 0, .int .i64 0, .int .u64 im]) w.heap.size (0, 0) _ rfl rfl rfl (six_set KR5.out _ _ _ _ _ _) Tryd.underlying25 rfl (by kernel_rfl) rfl ⟨_, by rw [← HO.out, HE.out]; rfl, ⟨⟨_, _, _, _, _, _⟩, rfl⟩, fun y hy => (by rw [← HO.out, HE.out] at hy; cases hy), six_below B5.out (Nat.le_refl _) _ _ _ _ _ _⟩
        | true =>
          by_cases hl : (xl : Int) = N
          case neg =>
            have HE : Hid (O = none) := HT3.out.trans (HTX.out.trans (if_neg hl))
            have t2 : ((xl : Int) != N) = true := by rw [bne_iff_ne]; exact hl
            clear hl
            go_wp2_with fail
            refine bodyPost_ret_block2 (cs := #[.int .i64 q, .int .i64 0, .int .i64 0, .int .i64 0, .int .i64 0, .int .u64 im]) w.heap.size (0, 0) _ rfl rfl rfl (six_set KR5.out _ _ _ _ _ _) Tryd.underlying25 rfl (by kernel_rfl) rfl ⟨_, by rw [← HO.out, HE.out]; rfl, ⟨⟨_, _, _, _, _, _⟩, rfl⟩, fun y hy => (by rw [← HO.out, HE.out] at hy; cases hy), six_below B5.out (Nat.le_refl _) _ _ _ _ _ _⟩
          have HE : Hid (O = some ⟨q, X.getD 0 0, X.getD 1 0, X.getD 2 0, X.getD 3 0, im⟩) := HT3.out.trans (HTX.out.trans (if_pos hl))
          have t2 : ((xl : Int) != N) = false := by rw [bne_eq_false_iff_eq]; exact hl
          have HL := Lib.hid hl
          clear hl
          go_upto_if 66 with fail
          go_cut [8] (fun s wx => ∃ (A : Option Addr) (n c : Nat) (r : List Int) (d : Int), s = .slice A n c ∧ n ≤ 4 ∧ Hid (Mid 3 W3.heap.size wx A n c r) ∧ Hid (wx.heap[gx]? = some (.cells #[.int .i64 q, .int .i64 d, .int .i64 0, .int .i64 0, .int .i64 0, .int .u64 im] 25 (0, 0))) ∧ Hid (wx.heap[w.heap.size]? = some (.cells #[.int .i64 0, .int .i64 0, .int .i64 0, .int .i64 0, .int .i64 0, .int .u64 0] 25 (0, 0))) ∧ Hid (Below w.heap.size w wx) ∧ Hid (W3.heap.size ≤ wx.heap.size) ∧ Hid (O = some ⟨q, d, r.getD 0 0, r.getD 1 0, r.getD 2 0, im⟩))
          case first =>
            by_cases hq : q = 0
            · have t1 : (q != 0) = false := by rw [bne_eq_false_iff_eq]; exact hq
              have hNn : N = 0 := by rw [HNV.out, if_pos hq, HN0.out hq]; rfl
              have hx0 : X = [] := List.eq_nil_of_length_eq_zero (by have h1 := HL.out; have h2 := HXL.out; omega)
              have hxl0 : xl = 0 := by rw [HXL.out, hx0]; rfl
              go_wp2_with fail
              go_meet
              case rel => exact ⟨a4, xl, c4, X, 0, rfl, by omega, O5.out.mid, KX5.out, KR5.out, B5.out, HB5.out, by rw [HE.out, hx0]; rfl⟩
            · have t1 : (q != 0) = true := by rw [bne_iff_ne]; exact hq
              obtain ⟨d, r, hX⟩ : ∃ d r, X = d :: r := by
                cases hX : X with
                | nil =>
                  exfalso
                  have h1 := HL.out
                  have h2 := HXL.out
                  have h3 : N = nn + 1 := by rw [HNV.out, if_neg hq]
                  rw [hX] at h2
                  simp at h2
                  omega
                | cons d r => exact ⟨d, r, rfl⟩
              subst hX
              have hx1 : xl = r.length + 1 := by rw [HXL.out]; rfl
              obtain ⟨rn, hrn⟩ : ∃ rn, rn = r.length := ⟨_, rfl⟩
              rw [← hrn] at hx1
              subst hx1
              have HRN := Lib.hid hrn
              clear hrn
              have hrn4 : rn ≤ 4 := by have := HL.out; omega
              have M5 := Lib.hid O5.out.mid
              obtain ⟨hm1, hm2, hm3⟩ := O5.out.mid
              obtain ⟨ga, rfl, hga, hl0⟩ : ∃ ga, a4 = some ⟨ga, 0, none⟩ ∧ W3.heap.size ≤ ga ∧ W5.cell? ⟨ga, 0, none⟩ = some (.int .i64 d) := by
                rcases O5.out.block with ⟨h0, hx⟩ | ⟨g, cap, cur, hv, hb, hlt, hg, q1, q2, q3, q4⟩
                · cases hx
                · cases hv
                  exact ⟨g, rfl, hb, (O5.out.at rfl).1 0 (by simp)⟩
              obtain ⟨A', hcutI, hA'⟩ := cut_one_at (P := Tryd.prog) infoInt ga 0 rn c4 hm2
              have hne : ga ≠ gx := by have := HGX3.out; omega
              clear hm1 hm3 x0 x2 x3 x4 x5 y0 y1 y2 y3 y4 y5 yf
              have hl0d : W5.drew.cell? ⟨ga, 0, none⟩ = some (.int .i64 d) := hl0
              have x1d : W5.drew.cell? ⟨gx, 1, none⟩ = some (.int .i64 0) := x1
              have xfd : ∀ i, W5.drew.frozen? ⟨gx, i, none⟩ = false := xf
              have KX5d : Hid (W5.drew.heap[gx]? = some (.cells #[.int .i64 q, .int .i64 0, .int .i64 0, .int .i64 0, .int .i64 0, .int .u64 im] 25 (0, 0))) := KX5.out
              have KR5d : Hid (W5.drew.heap[w.heap.size]? = _) := KR5.out
              have B5d : Hid (Below w.heap.size w W5.drew) := B5.out.drew
              have M5d : Hid (Mid 3 W3.heap.size W5.drew (some ⟨ga, 0, none⟩) (rn + 1) c4 (d :: r)) := M5.out
              have HB5d : Hid (W3.heap.size ≤ W5.drew.heap.size) := HB5.out
              go_wp2_with fail
              go_region_law (fail)
              all_goals
                go_wp2_with fail
                go_meet
                case rel =>
                  exact ⟨A', rn, c4 - 1, r, d, rfl, by omega, (M5d.out.tail (fun b o h => by cases h; exact hA')).of_same (fun b hb _ => Below.heap_setCell _ _ _ b (by have := HGX3.out; show b ≠ gx; omega)), six_1 KX5d.out _, block_far KR5d.out _ (by show w.heap.size ≠ gx; omega), B5d.out.setCell (by show w.heap.size ≤ gx; omega) _, by show _ ≤ _; simpa [World.setCell] using HB5d.out, by rw [HE.out]; rfl⟩
          case rest =>
            obtain ⟨A6, n6, c6, r, d, rfl, hn6, HM6, KX6, KR6, B6, HB6, HE6⟩ := hcut
            obtain ⟨W6, hW6⟩ : ∃ W6, W6 = wc := ⟨_, rfl⟩
            subst hW6
            have MA := Lib.hid (HM6.out.of_same (w' := W6.alloc (.cells #[.int .i64 0, .int .i64 0, .int .i64 0] 3)) (fun b _ hlt => Below.heap_alloc W6 _ b hlt))
            have HBA : Hid (W3.heap.size ≤ (W6.alloc (.cells #[.int .i64 0, .int .i64 0, .int .i64 0] 3)).heap.size) := by show _ ≤ _; simp; have := HB6.out; omega
            have KXA := Lib.hid (block_alloc KX6.out (.cells #[.int .i64 0, .int .i64 0, .int .i64 0] 3))
            have KRA := Lib.hid (block_alloc KR6.out (.cells #[.int .i64 0, .int .i64 0, .int .i64 0] 3))
            have BA := Lib.hid (below_alloc B6.out (.cells #[.int .i64 0, .int .i64 0, .int .i64 0] 3))
            have HB3 := Lib.hid B3.out.size
            go_wp2_with (first
              | (at_builtin; refine wpList_append_ev _ rfl _ _ 29 rfl _ _ rfl rfl _ (run_app_mid (W6.alloc (.cells #[.int .i64 0, .int .i64 0, .int .i64 0] 3)) infoInt _ MA.out HBA.out ⟨W6.heap.size, 0, none⟩ 3 3 [0, 0, 0] rfl (by omega) (new_cells W6 ([0, 0, 0].map (Value.int .i64)) 3) (by omega) (by omega)) ?_
                 rintro v7 w7 ⟨b7, o7, d7, rfl, hb7, hlt7, bel7, hc7⟩
                 have KX7 := Lib.hid ((bel7.block gx HGX3.out).trans KXA.out)
                 have KR7 := Lib.hid ((bel7.block w.heap.size (by have := HGX3.out; omega)).trans KRA.out)
                 have B7 := Lib.hid (BA.out.trans (bel7.mono HB3.out))
                 have HC7 := Lib.hid hc7
                 have hne7 : b7 ≠ gx := by have := HGX3.out; omega
                 clear bel7 hc7 hlt7 hb7)
              | fail)
            have HG : Hid (∀ j (hj : j < 3), w7.cell? ⟨b7, o7 + j, none⟩ = some (.int .i64 (r.getD j 0))) := fun j hj => by
              rw [HC7.out j (by simp; omega), getD_three]
            have l0 : w7.cell? ⟨b7, o7, none⟩ = some (.int .i64 (r.getD 0 0)) := HG.out 0 (by omega)
            have l1 : w7.cell? ⟨b7, o7 + 1, none⟩ = some (.int .i64 (r.getD 1 0)) := HG.out 1 (by omega)
            have l2 : w7.cell? ⟨b7, o7 + 2, none⟩ = some (.int .i64 (r.getD 2 0)) := HG.out 2 (by omega)
            have l0d : w7.drew.cell? ⟨b7, o7, none⟩ = some (.int .i64 (r.getD 0 0)) := l0
            have l1d : w7.drew.cell? ⟨b7, o7 + 1, none⟩ = some (.int .i64 (r.getD 1 0)) := l1
            have l2d : w7.drew.cell? ⟨b7, o7 + 2, none⟩ = some (.int .i64 (r.getD 2 0)) := l2
            clear HG HC7 HM6 MA
            generalize r.getD 0 0 = A0 at *
            generalize r.getD 1 0 = A1' at *
            generalize r.getD 2 0 = A2' at *
            obtain ⟨x0, x1, x2, x3, x4, x5⟩ := in_block KX7.out
            have KX7d : Hid (w7.drew.heap[gx]? = _) := KX7.out
            obtain ⟨z0, z1, z2, z3, z4, z5⟩ := in_block KX7d.out
            have xf : ∀ i, w7.drew.frozen? ⟨gx, i, none⟩ = false := fun i => frozen_of_block KX7.out
            have q0 : (0 : Int) < (n6 : Int) + 3 := by omega
            have q1 : (1 : Int) < (n6 : Int) + 3 := by omega
            have q2 : (2 : Int) < (n6 : Int) + 3 := by omega
            have hne7' : gx ≠ b7 := fun h => hne7 h.symm
            have KX8 := Lib.hid (six_2 KX7.out (.int .i64 A0))
            have KX9 := Lib.hid (six_3 KX8.out (.int .i64 A1'))
            have KXa := Lib.hid (six_4 KX9.out (.int .i64 A2'))
            have xf8 : ∀ i, (w7.setCell ⟨gx, 2, none⟩ (.int .i64 A0)).drew.frozen? ⟨gx, i, none⟩ = false := fun i => frozen_of_block KX8.out
            have xf9 : ∀ i, ((w7.setCell ⟨gx, 2, none⟩ (.int .i64 A0)).setCell ⟨gx, 3, none⟩ (.int .i64 A1')).drew.frozen? ⟨gx, i, none⟩ = false := fun i => frozen_of_block KX9.out
            have hgr' : w.heap.size ≠ gx := by omega
            have KRa := Lib.hid (block_far (p := ⟨gx, 4, none⟩) (block_far (p := ⟨gx, 3, none⟩) (block_far (p := ⟨gx, 2, none⟩) KR7.out (.int .i64 A0) hgr') (.int .i64 A1') hgr') (.int .i64 A2') hgr')
            have Ba : Hid (Below w.heap.size w _) := ((B7.out.setCell (p := ⟨gx, 2, none⟩) (Nat.le_of_lt hgr) (.int .i64 A0)).setCell (p := ⟨gx, 3, none⟩) (Nat.le_of_lt hgr) (.int .i64 A1')).setCell (p := ⟨gx, 4, none⟩) (Nat.le_of_lt hgr) (.int .i64 A2')
            go_region_law (fail)
            clear x0 x1 x2 x3 x4 x5 z0 z1 z2 z3 z4 z5 l0 l1 l2 l0d l1d l2d xf xf8 xf9
            all_goals
              have KXb : Hid ((((w7.setCell ⟨gx, 2, none⟩ (.int .i64 A0)).setCell ⟨gx, 3, none⟩ (.int .i64 A1')).setCell ⟨gx, 4, none⟩ (.int .i64 A2')).drew.heap[gx]? = _) := KXa.out
              have KRb : Hid ((((w7.setCell ⟨gx, 2, none⟩ (.int .i64 A0)).setCell ⟨gx, 3, none⟩ (.int .i64 A1')).setCell ⟨gx, 4, none⟩ (.int .i64 A2')).drew.heap[w.heap.size]? = _) := KRa.out
              have Bb : Hid (Below w.heap.size w (((w7.setCell ⟨gx, 2, none⟩ (.int .i64 A0)).setCell ⟨gx, 3, none⟩ (.int .i64 A1')).setCell ⟨gx, 4, none⟩ (.int .i64 A2')).drew) := Ba.out.drew
              generalize (((w7.setCell ⟨gx, 2, none⟩ (.int .i64 A0)).setCell ⟨gx, 3, none⟩ (.int .i64 A1')).setCell ⟨gx, 4, none⟩ (.int .i64 A2')).drew = W8 at *
              obtain ⟨x0, x1, x2, x3, x4, x5⟩ := in_block KXb.out
              obtain ⟨y0, y1, y2, y3, y4, y5⟩ := in_block KRb.out
              have yf : ∀ i, W8.frozen? ⟨w.heap.size, i, none⟩ = false := fun i => frozen_of_block KRb.out
              go_wp2_with fail
              refine bodyPost_ret_block2 (cs := #[.int .i64 q, .int .i64 d, .int .i64 A0, .int .i64 A1', .int .i64 A2', .int .u64 im]) w.heap.size (0, 0) _ rfl rfl rfl (six_set KRb.out _ _ _ _ _ _) Tryd.underlying25 rfl (by kernel_rfl) rfl ⟨_, by rw [← HO.out, HE6.out]; rfl, ⟨⟨_, _, _, _, _, _⟩, rfl⟩, fun y hy => (by rw [← HO.out, HE6.out] at hy; cases hy; rfl), six_below Bb.out (Nat.le_refl _) _ _ _ _ _ _⟩
end Go.Proofs.Sat
/- One instruction out of its words: the reference. -/
namespace Go.Proofs.Sat
open Go Go.RowKit
def lenV : Value → Nat
  | .slice _ n _ => n
  | _ => 0
theorem getD_pad (r : List Int) (j : Nat) : (r ++ [0]).getD j 0 = r.getD j 0 := by
  simp only [List.getD_eq_getElem?_getD]
  rcases Nat.lt_or_ge j r.length with hj | hj
  · rw [List.getElem?_append_left hj]
  · rw [List.getElem?_append_right hj, List.getElem?_eq_none hj]
    cases hk : j - r.length <;> rfl
theorem own_getD {e : TypeId} {S : Nat → Prop} {w : World} {base n c : Nat} {A : Option Addr} {r : List Int} (h : Own (Kd.int .i64) e S w base (.slice A n c) r) (hn : n = r.length) (hp : 0 < n) : ∃ ga, A = some ⟨ga, 0, none⟩ ∧ base ≤ ga ∧ ∀ j, j < n → w.cell? ⟨ga, j, none⟩ = some (.int .i64 (r.getD j 0)) := by
  subst hn
  rcases h.block with ⟨h0, hx⟩ | ⟨g, cap, cur, hv, hb, hlt, hg, q1, q2, q3, q4⟩
  · rw [hx] at hp; simp at hp
  · cases hv
    refine ⟨g, rfl, hb, fun j hj => ?_⟩
    rw [(h.at rfl).1 j hj, List.getD_eq_getElem?_getD, List.getElem?_eq_getElem hj]
    rfl
theorem mov_bad {d v : List UInt8} (h : immW v = none) : movW [d, v] = none := by
  rw [movW, h]
  cases regW d <;> rfl
end Go.Proofs.Sat
