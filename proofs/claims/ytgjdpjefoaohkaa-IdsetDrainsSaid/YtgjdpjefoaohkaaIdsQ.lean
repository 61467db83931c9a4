/- The walks of the work list (idset.Queue). -/
import Derived.Test.YtgjdpjefoaohkaaIdsS
import Derived.Deep.MidRow
import Derived.Deep.Upon
set_option linter.unusedVariables false
set_option linter.unusedSimpArgs false
namespace Go.Proofs.Sat
open Go Go.RowKit

/-- The row of a work list: its cells, the spare ones too; it lies from block M on, and is not block g. -/
def QRow (w : World) (v : Value) (l : List Int) (M g : Nat) : Prop :=
  (v = .slice none 0 0 ∧ l = []) ∨ ∃ b o c, v = .slice (some ⟨b, o, none⟩) l.length c ∧ M ≤ b ∧ b ≠ g ∧ b < w.heap.size ∧ l.length ≤ c ∧ c ≤ 9223372036854775807 ∧
    (∀ j, j < l.length → w.cell? ⟨b, o + j, none⟩ = some (.int .i64 (l.getD j 0))) ∧ (∀ j, j < c → (w.cell? ⟨b, o + j, none⟩).isSome = true) ∧ ∀ j, w.frozen? ⟨b, j, none⟩ = false
theorem shape_of_cell {w : World} {b o : Nat} (h : (w.cell? ⟨b, o, none⟩).isSome = true) : ∃ t k, w.shape? b = some (t, k) ∧ k ≠ 0 := by
  unfold World.cell? at h
  unfold World.shape?
  cases hb : w.heap[b]? with
  | none => simp [hb] at h
  | some ob =>
    cases ob with
    | cells c t fr =>
      simp [hb] at h
      exact ⟨t, c.size, by simp, by omega⟩
    | _ => simp [hb] at h
theorem vals_at {l : List Int} {w : World} {b o : Nat} (h : ∀ j, j < l.length → w.cell? ⟨b, o + j, none⟩ = some (.int .i64 (l.getD j 0))) : ∀ j v, (l.map (Value.int .i64))[j]? = some v → w.cell? ⟨b, o + j, none⟩ = some v := by
  intro j v hv
  simp only [List.getElem?_map, Option.map_eq_some_iff] at hv
  obtain ⟨x, hx, rfl⟩ := hv
  have hj := (List.getElem?_eq_some_iff.1 hx).1
  rw [h j hj, List.getD_eq_getElem?_getD, hx]; rfl
theorem one_vals (l : List Int) : ∀ v ∈ l.map (Value.int .i64), v.oneCell' = true := fun v hv => by simp at hv; obtain ⟨x, _, rfl⟩ := hv; rfl
/-- x put in at place i. -/
def putIn (l : List Int) (i : Nat) (x : Int) : List Int := l.take i ++ x :: l.drop i
theorem putIn_length (l : List Int) (i : Nat) (x : Int) (hi : i ≤ l.length) : (putIn l i x).length = l.length + 1 := by simp [putIn]; omega
theorem putIn_at (l : List Int) (i : Nat) (x : Int) (hi : i ≤ l.length) (j : Nat) : (putIn l i x).getD j 0 = if j < i then l.getD j 0 else if j = i then x else l.getD (j - 1) 0 := by
  unfold putIn
  simp only [List.getD_eq_getElem?_getD]
  by_cases h1 : j < i
  · rw [if_pos h1, List.getElem?_append_left (by simp; omega), List.getElem?_take_of_lt h1]
  · rw [if_neg h1, List.getElem?_append_right (by simp; omega)]
    by_cases h2 : j = i
    · subst h2
      rw [if_pos rfl]
      simp [Nat.min_eq_left hi]
    · rw [if_neg h2, List.length_take, Nat.min_eq_left hi, show j - i = (j - i - 1) + 1 from by omega, List.getElem?_cons_succ, List.getElem?_drop, show i + (j - i - 1) = j - 1 from by omega]
/-- The cells behind two runs of stores. -/
theorem cells_put {W : World} {b o i : Nat} {l : List Int} {x : Int} (hi : i ≤ l.length) (hs : ∀ j, j < l.length + 1 → (W.cell? ⟨b, o + j, none⟩).isSome = true) (hc : ∀ j, j < i → W.cell? ⟨b, o + j, none⟩ = some (.int .i64 (l.getD j 0))) :
    (∀ j, j < l.length + 1 → ((W.setCells b (o + (i + 1)) ((l.map (Value.int .i64)).drop i)).setCells b (o + i) [.int .i64 x]).cell? ⟨b, o + j, none⟩ = some (.int .i64 ((putIn l i x).getD j 0))) := by
  intro j hj
  rw [putIn_at l i x hi]
  have hd : ((l.map (Value.int .i64)).drop i).length = l.length - i := by simp
  by_cases h1 : j < i
  · rw [if_pos h1, World.cell?_setCells_out _ _ _ _ _ (fun _ _ => .inl (by show o + j < o + i; omega)), World.cell?_setCells_out _ _ _ _ _ (fun _ _ => .inl (by show o + j < o + (i + 1); omega))]
    exact hc j h1
  · rw [if_neg h1]
    by_cases h2 : j = i
    · subst h2
      rw [if_pos rfl]
      have := World.cell?_setCells_in b [.int .i64 x] (o + j) (W.setCells b (o + (j + 1)) ((l.map (Value.int .i64)).drop j)) (fun k hk => by
        obtain rfl : k = 0 := by simpa using hk
        rw [World.cell?_setCells_out _ _ _ _ _ (fun _ _ => .inl (by show o + j + 0 < o + (j + 1); omega))]
        exact hs j hj) 0 (by simp)
      simpa using this
    · rw [if_neg h2, World.cell?_setCells_out _ _ _ _ _ (fun _ _ => .inr (by show o + i + 1 ≤ o + j; omega))]
      have := World.cell?_setCells_in b ((l.map (Value.int .i64)).drop i) (o + (i + 1)) W (fun k hk => by
        rw [hd] at hk
        have := hs (i + 1 + k) (by omega)
        rw [show o + (i + 1) + k = o + (i + 1 + k) from by omega]
        exact this) (j - i - 1) (by rw [hd]; omega)
      rw [show o + (i + 1) + (j - i - 1) = o + j from by omega] at this
      rw [this]
      congr 1
      simp only [List.getElem_drop, List.getElem_map]
      rw [List.getD_eq_getElem?_getD, List.getElem?_eq_getElem (by omega)]
      simp only [show i + (j - i - 1) = j - 1 from by omega, Option.getD_some]
/-- The same, in the other order. -/
theorem cells_put2 {W : World} {b o i : Nat} {l : List Int} {x : Int} (hi : i ≤ l.length) (hs : ∀ j, j < l.length + 1 → (W.cell? ⟨b, o + j, none⟩).isSome = true) (hc : ∀ j, j < i → W.cell? ⟨b, o + j, none⟩ = some (.int .i64 (l.getD j 0))) :
    (∀ j, j < l.length + 1 → ((W.setCells b (o + i) [.int .i64 x]).setCells b (o + i + 1) ((l.map (Value.int .i64)).drop i)).cell? ⟨b, o + j, none⟩ = some (.int .i64 ((putIn l i x).getD j 0))) := by
  intro j hj
  rw [putIn_at l i x hi]
  have hd : ((l.map (Value.int .i64)).drop i).length = l.length - i := by simp
  by_cases h1 : j < i
  · rw [if_pos h1, World.cell?_setCells_out _ _ _ _ _ (fun _ _ => .inl (by show o + j < o + i + 1; omega)), World.cell?_setCells_out _ _ _ _ _ (fun _ _ => .inl (by show o + j < o + i; omega))]
    exact hc j h1
  · rw [if_neg h1]
    by_cases h2 : j = i
    · subst h2
      rw [if_pos rfl, World.cell?_setCells_out _ _ _ _ _ (fun _ _ => .inl (by show o + j < o + j + 1; omega))]
      have := World.cell?_setCells_in b [.int .i64 x] (o + j) W (fun k hk => by
        obtain rfl : k = 0 := by simpa using hk
        exact hs j hj) 0 (by simp)
      simpa using this
    · rw [if_neg h2]
      have := World.cell?_setCells_in b ((l.map (Value.int .i64)).drop i) (o + i + 1) (W.setCells b (o + i) [.int .i64 x]) (fun k hk => by
        rw [hd] at hk
        rw [World.cell?_setCells_out _ _ _ _ _ (fun _ _ => .inr (by show o + i + 1 ≤ o + i + 1 + k; omega))]
        have := hs (i + 1 + k) (by omega)
        rw [show o + i + 1 + k = o + (i + 1 + k) from by omega]
        exact this) (j - i - 1) (by rw [hd]; omega)
      rw [show o + i + 1 + (j - i - 1) = o + j from by omega] at this
      rw [this]
      congr 1
      simp only [List.getElem_drop, List.getElem_map]
      rw [List.getD_eq_getElem?_getD, List.getElem?_eq_getElem (by omega)]
      simp only [show i + (j - i - 1) = j - 1 from by omega, Option.getD_some]
theorem set_isSome {W : World} {b : Nat} (vs : List Value) (o : Nat) (x : Addr) (h : (W.cell? x).isSome = true) : ((W.setCells b o vs).cell? x).isSome = true := World.isSome_setCells b vs o W x h
theorem heap_set (W : World) (b o : Nat) (vs : List Value) {k : Nat} (hk : k < W.heap.size) (h : k ≠ b) : (W.setCells b o vs).heap[k]? = W.heap[k]? := World.heap_setCells_other W b o vs hk h
theorem size_set (b : Nat) : ∀ (vs : List Value) (o : Nat) (w : World), (w.setCells b o vs).heap.size = w.heap.size
  | [], _, _ => rfl
  | v :: r, o, w => by rw [World.setCells, size_set b r]; simp [World.setCell]
theorem below_set {B b : Nat} {a : World} (hb : B ≤ b) : ∀ (vs : List Value) (o : Nat) (w : World), Below B a w → Below B a (w.setCells b o vs)
  | [], _, _, h => h
  | v :: r, o, w, h => by rw [World.setCells]; exact below_set hb r _ _ (h.setCell (p := ⟨b, o, none⟩) hb v)
theorem cell_new (w : World) (c : Array Value) (t : TypeId) (j : Nat) : (w.alloc (.cells c t)).cell? ⟨w.heap.size, j, none⟩ = c[j]? := cell_of_row _ _ _ _ _ (0, 0) (heap_alloc_new w _)
theorem frozen_new (w : World) (c : Array Value) (t : TypeId) (j : Nat) : (w.alloc (.cells c t)).frozen? ⟨w.heap.size, j, none⟩ = false := frozen_of_block (heap_alloc_new w _)
/-- slices.Insert into a work list's row; the variadic's box has just been made. -/
theorem insert_q (w0 : World) (g M : Nat) (v : Value) (l : List Int) (x : Int) (i : Nat) (hi : i ≤ l.length) (hq : QRow w0 v l M g) (hg : g < w0.heap.size) (hM : M ≤ w0.heap.size) (hl : l.length ≤ 1099511627776) :
    Calls Try.prog 39 #[v, .int .i64 i, .slice (some ⟨w0.heap.size, 0, none⟩) 1 1] (w0.alloc (.cells #[.int .i64 x] 3)) fun e w' => ∃ v', e = .returned v' ∧ QRow w' v' (putIn l i x) M g ∧
      Same (fun k => some k ≠ v.ownBlock) w0 w' ∧ (v'.ownBlock = v.ownBlock ∨ ∀ k, v'.ownBlock = some k → w0.heap.size ≤ k) ∧ Below M w0 w' := by
  have hpl := putIn_length l i x hi
  have hvs : ∀ j u, [Value.int .i64 x][j]? = some u → (w0.alloc (.cells #[.int .i64 x] 3)).cell? ⟨w0.heap.size, 0 + j, none⟩ = some u := fun j u hu => by
    have := new_cells w0 [.int .i64 x] 3 j u hu
    rwa [add_plain] at this
  have h1v : ∀ u ∈ [Value.int .i64 x], u.oneCell' = true := fun u hu => by simp at hu; subst hu; rfl
  have hfx : (w0.alloc (.cells #[.int .i64 x] 3)).frozen? ⟨w0.heap.size, 0, none⟩ = false := frozen_new _ _ _ _
  have hga : ∀ k, k < w0.heap.size → (w0.alloc (.cells #[.int .i64 x] 3)).heap[k]? = w0.heap[k]? := fun k hk => Below.heap_alloc _ _ _ hk
  have hBa : Below M w0 (w0.alloc (.cells #[.int .i64 x] 3)) := (Below.refl M w0).alloc hM _
  generalize hw : w0.alloc (.cells #[.int .i64 x] 3) = w at *
  have hws : w.heap.size = w0.heap.size + 1 := by rw [← hw]; simp
  have newrow : ∀ (W : World) (c : Array Value) (C : Nat), l.length + 1 ≤ C → C ≤ 9223372036854775807 → c.size = C → (∀ j, j < l.length + 1 → c[j]? = some (.int .i64 ((putIn l i x).getD j 0))) → Below M w0 W → (∀ k, k < w0.heap.size → W.heap[k]? = w0.heap[k]?) → w0.heap.size ≤ W.heap.size →
      QRow (W.alloc (.cells c 3)) (.slice (some ⟨W.heap.size, 0, none⟩) (l.length + 1) C) (putIn l i x) M g ∧ Same (fun k => some k ≠ v.ownBlock) w0 (W.alloc (.cells c 3)) ∧
        ((Value.slice (some ⟨W.heap.size, 0, none⟩) (l.length + 1) C).ownBlock = v.ownBlock ∨ ∀ k, (Value.slice (some ⟨W.heap.size, 0, none⟩) (l.length + 1) C).ownBlock = some k → w0.heap.size ≤ k) ∧ Below M w0 (W.alloc (.cells c 3)) := by
    intro W c C h1 h2 h3 h4 h5 h6 h7
    refine ⟨.inr ⟨W.heap.size, 0, C, by rw [hpl], by omega, by omega, by simp, by omega, h2, fun j hj => ?_, fun j hj => ?_, fun j => frozen_new _ _ _ _⟩, ⟨by simp; omega, fun k _ hk => (Below.heap_alloc _ _ _ (by omega)).trans (h6 k hk)⟩, .inr fun k hk => by cases hk; exact h7, h5.alloc (by omega) _⟩
    · rw [Nat.zero_add, cell_new]; exact h4 j (by omega)
    · rw [Nat.zero_add, cell_new]; simp; omega
  have hbig : (l.length + 1) * 8 ≤ 140737488355328 := by omega
  rcases hq with ⟨rfl, rfl⟩ | ⟨b, o, c, rfl, hb, hbg, hblt, hlc, hc63, hcell, hsp, hfz⟩
  · obtain rfl : i = 0 := by simpa using hi
    refine (Any2.slices_Insert_int_end_grow Try.laysNm221 none 0 0 w0.heap.size 0 1 1 [] [.int .i64 x] w (by omega) (by omega) (by omega) (by omega) rfl rfl (fun _ => rfl) (fun a h => by cases h) hvs h1v).mono ?_
    rintro e w' ⟨rfl, rfl⟩
    simp only [show Try.laysNm221_ren.t 3 = 3 from rfl]
    have hge := grownCap_ge w (0 + 1) 0 3
    have hle := grownCap_le_maxLen w (0 + 1) 0 3 (by simp [maxLen])
    generalize grownCap w (0 + 1) 0 3 = C at *
    have hle' : C ≤ 9223372036854775807 := by simpa [maxLen] using hle
    obtain ⟨r1, r2, r3⟩ := newrow w.drew ((([] : List Value) ++ [Value.int .i64 x]).toArray ++ Builtin.zeroCells (Value.int .i64 0).cells (C - (0 + 1))) C (by simpa using hge) hle' (by rw [Array.size_append, size_zeroCells]; simp [Value.cells]; omega)
      (fun j hj => by
        obtain rfl : j = 0 := by simpa using hj
        rw [Array.getElem?_append_left (by simp)]
        simp [putIn]) hBa.drew hga (by show _ ≤ w.heap.size; omega)
    exact ⟨_, rfl, r1, r2, r3⟩
  · have hbw : ∀ j, w.cell? ⟨b, j, none⟩ = w0.cell? ⟨b, j, none⟩ := fun j => World.cell?_of_block (w := w0) (hga b hblt)
    have hfw : ∀ j, w.frozen? ⟨b, j, none⟩ = false := fun j => (World.frozen?_of_block (w := w0) (hga b hblt)).trans (hfz j)
    have hcs : ∀ j u, (l.map (Value.int .i64))[j]? = some u → w.cell? ⟨b, o + j, none⟩ = some u := fun j u hu => (hbw _).trans (vals_at hcell j u hu)
    rcases Nat.lt_or_ge i l.length with hil | hil
    · rcases Nat.lt_or_ge c (l.length + 1) with hr | hr
      · refine (Any2.slices_Insert_int_grow Try.laysNm221 b o l.length c i w0.heap.size 0 1 1 (l.map (Value.int .i64)) [.int .i64 x] w hil (by omega) hlc hr hbig (by simp) rfl hcs hvs (one_vals l) h1v).mono ?_
        rintro e w' ⟨rfl, rfl⟩
        simp only [show Try.laysNm221_ren.t 3 = 3 from rfl]
        have hge := grownCap_ge w (l.length + 1) c 3
        have hle := grownCap_le_maxLen w (l.length + 1) c 3 (by simp [maxLen]; omega)
        generalize hC : grownCap w (l.length + 1) c 3 = C at *
        have hle' : C ≤ 9223372036854775807 := by simpa [maxLen] using hle
        have hsz : (((l.map (Value.int .i64)).take i).toArray ++ Builtin.zeroCells (Value.int .i64 0).cells (l.length + 1 - i) ++ Builtin.zeroCells (Value.int .i64 0).cells (C - (l.length + 1))).size = C := by
          rw [Array.size_append, Array.size_append, size_zeroCells, size_zeroCells]; simp [Value.cells]; omega
        have hfirst : ∀ j, j < i → (((l.map (Value.int .i64)).take i).toArray ++ Builtin.zeroCells (Value.int .i64 0).cells (l.length + 1 - i) ++ Builtin.zeroCells (Value.int .i64 0).cells (C - (l.length + 1)))[j]? = some (.int .i64 (l.getD j 0)) := fun j hj => by
          rw [Array.append_assoc, Array.getElem?_append_left (by simp; omega)]
          simp [List.getElem?_take_of_lt hj, show j < l.length from by omega]
        generalize (((l.map (Value.int .i64)).take i).toArray ++ Builtin.zeroCells (Value.int .i64 0).cells (l.length + 1 - i) ++ Builtin.zeroCells (Value.int .i64 0).cells (C - (l.length + 1))) = arr at *
        rw [drew_setCells]
        have hcp := cells_put2 (W := (w.alloc (.cells arr 3)).drew.drew) (b := w.heap.size) (o := 0) (i := i) (l := l) (x := x) hi (fun j hj => by
          show ((w.alloc (.cells arr 3)).cell? _).isSome = true
          rw [Nat.zero_add, cell_new]; simp; omega) (fun j hj => by
          show (w.alloc (.cells arr 3)).cell? _ = _
          rw [Nat.zero_add, cell_new]; exact hfirst j hj)
        simp only [Nat.zero_add] at hcp
        refine ⟨_, rfl, .inr ⟨w.heap.size, 0, C, by rw [hpl], by omega, by omega, by rw [size_set, size_set]; show _ < (w.alloc _).heap.size; simp, by omega, hle', fun j hj => ?_, fun j hj => ?_, fun j => ?_⟩, ⟨by rw [size_set, size_set]; show _ ≤ (w.alloc _).heap.size; simp; omega, fun k _ hk => ?_⟩, .inr fun k hk => by cases hk; show _ ≤ w.heap.size; omega, ?_⟩
        · rw [Nat.zero_add]; exact hcp j (by omega)
        · refine set_isSome _ _ _ (set_isSome _ _ _ ?_)
          show ((w.alloc (.cells arr 3)).cell? _).isSome = true
          rw [Nat.zero_add, cell_new]; simp; omega
        · rw [World.frozen?_setCells, World.frozen?_setCells]
          exact frozen_new w arr 3 j
        · rw [heap_set _ _ _ _ (by rw [size_set]; show _ < (w.alloc _).heap.size; simp; omega) (by omega), heap_set _ _ _ _ (by show _ < (w.alloc _).heap.size; simp; omega) (by omega)]
          exact (Below.heap_alloc w _ k (by omega)).trans (hga k hk)
        · exact below_set (by omega) _ _ _ (below_set (by omega) _ _ _ ((hBa.alloc (by omega) _).drew.drew))
      · have hsp' : ∀ j, j < l.length + 1 → (w.cell? ⟨b, o + j, none⟩).isSome = true := fun j hj => by rw [hbw]; exact hsp j (by omega)
        obtain ⟨tB, kB, hsb, hkB⟩ := shape_of_cell (hsp' 0 (by omega))
        have hsa : w.shape? w0.heap.size = some (3, 1) := by rw [← hw]; unfold World.shape?; rw [heap_alloc_new]; rfl
        have hfe : w.frozen? ⟨w0.heap.size, 1, none⟩ = false := by rw [← hw]; exact frozen_new _ _ _ _
        refine (Any2.slices_Insert_int_shift Try.laysNm221 b o l.length c i w0.heap.size 0 1 1 (l.map (Value.int .i64)) [.int .i64 x] w hil (by omega) hr hc63 (by omega) (by simp) rfl hcs hsp' (fun j _ => hfw _) hvs (one_vals l) h1v 3 tB 1 kB hsa hsb hkB hfx hfe).mono ?_
        rintro e w' ⟨rfl, rfl⟩
        have hcp := cells_put (W := w.drew) (b := b) (o := o) (i := i) (l := l) (x := x) hi hsp' (fun j hj => (hbw _).trans (hcell j (by omega)))
        refine ⟨_, rfl, .inr ⟨b, o, c, by rw [hpl], hb, hbg, by rw [size_set, size_set]; show b < w.heap.size; omega, by omega, hc63, fun j hj => hcp j (by omega), fun j hj => ?_, fun j => ?_⟩, ⟨by rw [size_set, size_set]; show _ ≤ w.heap.size; omega, fun k hkb hk => ?_⟩, .inl rfl, ?_⟩
        · refine set_isSome _ _ _ (set_isSome _ _ _ ?_)
          show (w.cell? _).isSome = true
          rw [hbw]; exact hsp j hj
        · rw [World.frozen?_setCells, World.frozen?_setCells]
          exact hfw j
        · have hkb' : k ≠ b := fun e => hkb (by rw [e]; rfl)
          rw [heap_set _ _ _ _ (by rw [size_set]; show _ < w.heap.size; omega) hkb', heap_set _ _ _ _ (by show _ < w.heap.size; omega) hkb']
          exact hga k hk
        · exact below_set hb _ _ _ (below_set hb _ _ _ hBa.drew)
    · obtain rfl : i = l.length := by omega
      have hput : ∀ j, j < l.length → (putIn l l.length x).getD j 0 = l.getD j 0 := fun j hj => by rw [putIn_at _ _ _ (Nat.le_refl _), if_pos hj]
      have hputn : (putIn l l.length x).getD l.length 0 = x := by rw [putIn_at _ _ _ (Nat.le_refl _), if_neg (by omega), if_pos rfl]
      rcases Nat.lt_or_ge c (l.length + 1) with hr | hr
      · refine (Any2.slices_Insert_int_end_grow Try.laysNm221 (some ⟨b, o, none⟩) l.length c w0.heap.size 0 1 1 (l.map (Value.int .i64)) [.int .i64 x] w (by omega) hlc hr hbig (by simp) rfl (fun h => by cases h) (fun a h j u hu => by cases h; rw [add_plain]; exact hcs j u hu) hvs h1v).mono ?_
        rintro e w' ⟨rfl, rfl⟩
        simp only [show Try.laysNm221_ren.t 3 = 3 from rfl]
        have hge := grownCap_ge w (l.length + 1) c 3
        have hle := grownCap_le_maxLen w (l.length + 1) c 3 (by simp [maxLen]; omega)
        obtain ⟨r1, r2, r3⟩ := newrow w.drew ((l.map (Value.int .i64) ++ [Value.int .i64 x]).toArray ++ Builtin.zeroCells (Value.int .i64 0).cells (grownCap w (l.length + 1) c 3 - (l.length + 1))) (grownCap w (l.length + 1) c 3) hge (by simpa [maxLen] using hle) (by rw [Array.size_append, size_zeroCells]; simp [Value.cells]; omega)
          (fun j hj => by
            rw [Array.getElem?_append_left (by simp; omega)]
            simp only [List.getElem?_toArray]
            rcases Nat.lt_or_ge j l.length with h | h
            · rw [hput j h, List.getElem?_append_left (by simpa using h)]
              simp [h]
            · obtain rfl : j = l.length := by omega
              rw [hputn, List.getElem?_append_right (by simp)]
              simp) hBa.drew hga (by show _ ≤ w.heap.size; omega)
        exact ⟨_, rfl, r1, r2, r3⟩
      · refine (Any2.slices_Insert_int_end_room Try.laysNm221 b o l.length c w0.heap.size 0 1 1 [.int .i64 x] w (by omega) hr hc63 rfl (fun j hj => by
            obtain rfl : j = 0 := by omega
            rw [Nat.add_zero, hbw]; exact hsp _ (by omega)) (fun j _ => hfw _) hvs h1v).mono ?_
        rintro e w' ⟨rfl, rfl⟩
        refine ⟨_, rfl, .inr ⟨b, o, c, by rw [hpl], hb, hbg, by rw [size_set]; omega, by omega, hc63, fun j hj => ?_, fun j hj => set_isSome _ _ _ (by rw [hbw]; exact hsp j hj), fun j => by rw [World.frozen?_setCells]; exact hfw j⟩, ⟨by rw [size_set]; omega, fun k hkb hk => ?_⟩, .inl rfl, below_set hb _ _ _ hBa⟩
        · rcases Nat.lt_or_ge j l.length with h | h
          · rw [hput j h, World.cell?_setCells_out _ _ _ _ _ (fun _ _ => .inl (by show o + j < o + l.length; omega)), hbw]
            exact hcell j h
          · obtain rfl : j = l.length := by omega
            rw [hputn]
            have := World.cell?_setCells_in b [.int .i64 x] (o + l.length) w (fun k hk => by
              obtain rfl : k = 0 := by simpa using hk
              rw [Nat.add_zero, hbw]; exact hsp _ (by omega)) 0 (by simp)
            simpa using this
        · have hkb' : k ≠ b := fun e => hkb (by rw [e]; rfl)
          rw [heap_set _ _ _ _ (by omega) hkb']
          exact hga k hk

/-- A work list at block g: what is waiting, in increasing order. -/
def IsQ (w : World) (g M : Nat) (rb : Option Nat) (l : List Int) : Prop :=
  M ≤ g ∧ SS l ∧ ∃ v, w.heap[g]? = some (.cells #[.bool true, v] 45 (0, 0)) ∧ QRow w v l M g ∧ v.ownBlock = rb
theorem QRow.same {w w' : World} {v : Value} {l : List Int} {M g : Nat} (h : QRow w v l M g) (hs : Same (fun b => b ≠ g) w w') : QRow w' v l M g := by
  rcases h with h | ⟨b, o, c, e, hb, hbg, hblt, hlc, hc63, hcell, hsp, hfz⟩
  · exact .inl h
  · have hh := hs.2 b hbg hblt
    exact .inr ⟨b, o, c, e, hb, hbg, Nat.lt_of_lt_of_le hblt hs.1, hlc, hc63, fun j hj => (World.cell?_of_block (w := w) hh).trans (hcell j hj),
      fun j hj => by rw [World.cell?_of_block (w := w) (w' := w') (a := ⟨b, o + j, none⟩) hh]; exact hsp j hj, fun j => (World.frozen?_of_block (w := w) hh).trans (hfz j)⟩
theorem QRow.keep {w w' : World} {v : Value} {l : List Int} {M g : Nat} (h : QRow w v l M g) (hs : Same (fun b => some b = v.ownBlock) w w') : QRow w' v l M g := by
  rcases h with h | ⟨b, o, c, rfl, hb, hbg, hblt, hlc, hc63, hcell, hsp, hfz⟩
  · exact .inl h
  · have hh := hs.2 b rfl hblt
    exact .inr ⟨b, o, c, rfl, hb, hbg, Nat.lt_of_lt_of_le hblt hs.1, hlc, hc63, fun j hj => (World.cell?_of_block (w := w) hh).trans (hcell j hj),
      fun j hj => by rw [World.cell?_of_block (w := w) (w' := w') (a := ⟨b, o + j, none⟩) hh]; exact hsp j hj, fun j => (World.frozen?_of_block (w := w) hh).trans (hfz j)⟩
/-- It lives on while other blocks change. -/
theorem IsQ.same {w w' : World} {g M : Nat} {rb : Option Nat} {l : List Int} (h : IsQ w g M rb l) (hs : Same (fun b => b = g ∨ some b = rb) w w') : IsQ w' g M rb l := by
  obtain ⟨h1, h2, v, h3, h4, rfl⟩ := h
  exact ⟨h1, h2, v, (hs.2 g (.inl rfl) (Array.getElem?_eq_some_iff.1 h3).1).trans h3, h4.keep (hs.mono fun b hb => .inr hb), rfl⟩
theorem IsQ.below {w w' : World} {g M : Nat} {rb : Option Nat} {l : List Int} (h : IsQ w g M rb l) (hb : Below w.heap.size w w') : IsQ w' g M rb l := h.same (Same.below hb)
theorem IsQ.drawn {w w' : World} {g M : Nat} {rb : Option Nat} {l : List Int} (h : IsQ w g M rb l) (hb : Drawn w w') : IsQ w' g M rb l := h.below (hb.below _)
theorem IsQ.lt {w : World} {g M : Nat} {rb : Option Nat} {l : List Int} (h : IsQ w g M rb l) : g < w.heap.size ∧ ∀ k, rb = some k → M ≤ k ∧ k < w.heap.size := by
  obtain ⟨h1, h2, v, h3, h4, rfl⟩ := h
  refine ⟨(Array.getElem?_eq_some_iff.1 h3).1, fun k hk => ?_⟩
  rcases h4 with ⟨rfl, _⟩ | ⟨b, o, c, rfl, hb, hbg, hblt, _⟩
  · cases hk
  · cases hk; exact ⟨hb, hblt⟩
theorem QRow.ne {w : World} {v : Value} {l : List Int} {M g : Nat} (h : QRow w v l M g) : some g ≠ v.ownBlock := by
  rcases h with ⟨rfl, _⟩ | ⟨b, o, c, rfl, hb, hbg, _⟩
  · simp [Value.ownBlock]
  · simp only [Value.ownBlock]; intro e; cases e; exact hbg rfl
theorem QRow.form {w : World} {v : Value} {l : List Int} {M g : Nat} (h : QRow w v l M g) : ∃ a c, v = .slice a l.length c ∧ Rd (Kd.int .i64) (fun _ => True) w a c l := by
  rcases h with ⟨rfl, rfl⟩ | ⟨b, o, c, rfl, hb, hbg, hblt, hlc, hc63, hcell, hsp, hfz⟩
  · exact ⟨none, 0, rfl, Rd.nil _ _ _ _ _ (by omega)⟩
  · exact ⟨_, c, rfl, Rd.of_vals 0 hlc hc63 (fun _ => ⟨trivial, hblt⟩) hcell⟩
theorem cell_fst {w : World} {g : Nat} {a b : Value} {t : TypeId} {fr : Nat × Nat} (h : w.heap[g]? = some (.cells #[a, b] t fr)) : w.cell? ⟨g, 0, none⟩ = some a := by simp [World.cell?, h]
theorem cell_snd {w : World} {g : Nat} {a b : Value} {t : TypeId} {fr : Nat × Nat} (h : w.heap[g]? = some (.cells #[a, b] t fr)) : w.cell? ⟨g, 1, none⟩ = some b := by simp [World.cell?, h]
theorem block_set2 {w : World} {g : Nat} {a b u : Value} {t : TypeId} {fr : Nat × Nat} (h : w.heap[g]? = some (.cells #[a, b] t fr)) : (w.setCell ⟨g, 1, none⟩ u).heap[g]? = some (.cells #[a, u] t fr) := by
  simp [World.setCell, Array.getElem?_modify, h]
theorem putIn_ins {l : List Int} (hs : SS l) {x : Int} (hx : ¬ x ∈ l) : putIn l (l.countP fun y => decide (y < x)) x = ins l x := by
  rw [ins_take hs, if_neg (fun h => hx ((ss_at hs x).2 h))]
  rfl
theorem ins_mem {l : List Int} {x : Int} (hx : x ∈ l) : ins l x = l := by simp [ins, hx]

set_option maxHeartbeats 800000 in
theorem queue_New (w : World) : Calls Try.prog 10 #[] w fun e w' => ∃ g, e = .returned (.pointer (some ⟨g, 0, none⟩)) ∧ IsQ w' g w.heap.size none [] ∧ Below w.heap.size w w' := by
  go_enter Try.func10, Try.ntmps10
  go_wp2
  go_ret
  exact ⟨_, rfl, ⟨Nat.le_refl _, .nil, .slice none 0 0, heap_alloc_new _ _, .inl ⟨rfl, rfl⟩, rfl⟩, Below.alloc (Below.refl _ _) (Nat.le_refl _) _⟩
set_option maxHeartbeats 800000 in
theorem queue_Push (w : World) (g M : Nat) (rb : Option Nat) (l : List Int) (x : Int) (h : IsQ w g M rb l) (hM : M ≤ w.heap.size) (hl : l.length ≤ 1099511627776) :
    Calls Try.prog 11 #[.pointer (some ⟨g, 0, none⟩), .int .i64 x] w fun e w' => e = .returned (.bool (!decide (x ∈ l))) ∧ ∃ rb', IsQ w' g M rb' (ins l x) ∧ Below M w w' ∧ Same (fun b => b ≠ g ∧ some b ≠ rb) w w' ∧ (rb' = rb ∨ ∀ k, rb' = some k → w.heap.size ≤ k) := by
  obtain ⟨hMg, hss, v, hb, hq, rfl⟩ := h
  have hglt := (Array.getElem?_eq_some_iff.1 hb).1
  obtain ⟨a, c, rfl, hr⟩ := hq.form
  have c0 := cell_fst hb
  have c1 := cell_snd hb
  have f1 := frozen_of_block (o := 1) hb
  have hcl : (l.countP fun y => decide (y < x)) ≤ l.length := List.countP_le_length
  have HQ := Lib.hid hq
  have HSS := Lib.hid hss
  have HB := Lib.hid hb
  clear hq hss hb
  go_enter Try.func11, Try.ntmps11
  by_cases hx : x ∈ l
  · have hx' : decide (x ∈ l) = true := by simpa using hx
    have HX := Lib.hid hx
    clear hx
    go_wp2_with (first
      | (go_at_call 38; refine (search _ a c l x _ hr HSS.out (by omega)).mono ?_; rintro e w1 ⟨rfl, nd, rfl⟩)
      | fail)
    go_ret
    rw [ins_mem HX.out]
    exact ⟨ret_bool (by rw [hx']; rfl), _, ⟨hMg, HSS.out, _, HB.out, HQ.out, rfl⟩, (Drawn.of _ _).below M, Same.drewN _ _ _, .inl rfl⟩
  · have hx' : decide (x ∈ l) = false := by simpa using hx
    have HX := Lib.hid hx
    clear hx
    go_wp2_with (first
      | (go_at_call 38; refine (search _ a c l x _ hr HSS.out (by omega)).mono ?_; rintro e w1 ⟨rfl, nd, rfl⟩)
      | (go_at_call 39; refine (insert_q (w.drewN nd) g M _ l x _ hcl (HQ.out.same (Same.drewN _ _ _)) hglt hM hl).mono ?_; rintro e w2 ⟨v2, rfl, hq2, hs2, hv2, hb2⟩; obtain ⟨a2, c2, rfl, hr2⟩ := hq2.form; have hb := (hs2.2 g (HQ.out.ne) hglt).trans HB.out; have HS2 := Lib.hid hs2; have HV2 := Lib.hid hv2; have c1 := cell_snd hb; have f1 := frozen_of_block (o := 1) hb; have HQ2 := Lib.hid hq2; have HBB := Lib.hid hb; have HBL := Lib.hid hb2; clear hq2 hb hb2 hs2 hv2)
      | fail)
    go_ret
    have e1 := putIn_ins HSS.out HX.out
    rw [← e1]
    refine ⟨ret_bool (by rw [hx']; rfl), _, ⟨hMg, by rw [e1]; exact ss_ins HSS.out x, _, block_set2 HBB.out, HQ2.out.same (Same.setCell (p := ⟨g, 1, none⟩) w2 _ (fun b hb => hb)), rfl⟩, ((Drawn.of w nd).below M).trans (HBL.out.setCell (p := ⟨g, 1, none⟩) hMg _), ?_, HV2.out⟩
    exact ((Same.drewN _ w nd).trans (HS2.out.mono fun b hb => hb.2)).trans (Same.setCell (p := ⟨g, 1, none⟩) w2 _ (fun b hb => hb.1))
set_option maxHeartbeats 800000 in
theorem queue_Len (w : World) (g M : Nat) (rb : Option Nat) (l : List Int) (h : IsQ w g M rb l) :
    Calls Try.prog 15 #[.pointer (some ⟨g, 0, none⟩)] w fun e w' => e = .returned (.int .i64 l.length) ∧ Drawn w w' := by
  obtain ⟨hMg, hss, v, hb, hq, rfl⟩ := h
  obtain ⟨a, c, rfl, hr⟩ := hq.form
  have c1 := cell_snd hb
  clear hq hss hb
  go_enter Try.func15, Try.ntmps15
  go_wp2
  go_ret
  exact ⟨rfl, Drawn.refl _⟩
set_option maxHeartbeats 800000 in
theorem queue_Items (w : World) (g M : Nat) (rb : Option Nat) (l : List Int) (h : IsQ w g M rb l) (hl : l.length ≤ 1099511627776) :
    Calls Try.prog 19 #[.pointer (some ⟨g, 0, none⟩)] w fun e w' => ∃ v, e = .returned v ∧ Own (Kd.int .i64) 3 NoS w' w.heap.size v l ∧ Below w.heap.size w w' := by
  obtain ⟨hMg, hss, v, hb, hq, rfl⟩ := h
  obtain ⟨a, c, rfl, hr⟩ := hq.form
  have c1 := cell_snd hb
  have HE := Lib.hid (ofL_self hss)
  clear hq hss hb
  go_enter Try.func19, Try.ntmps19
  go_wp2_with (first
    | (go_at_call 21; refine (idset_Of _ a c l _ hr (by omega)).mono ?_; rw [HE.out]; rintro e w1 ⟨v, rfl, ho, hb⟩)
    | fail)
  go_ret
  exact ⟨v, rfl, ho, hb⟩
set_option maxHeartbeats 800000 in
theorem queue_Pop_none (w : World) (g M : Nat) (rb : Option Nat) (h : IsQ w g M rb []) :
    Calls Try.prog 12 #[.pointer (some ⟨g, 0, none⟩)] w fun e w' => e = .returned (.tuple #[.int .i64 0, .bool false]) ∧ Drawn w w' := by
  go_enter Try.func12, Try.ntmps12
  go_wp2_with (first
    | (go_at_call 15; refine (queue_Len _ g M rb [] h).mono ?_; rintro e w1 ⟨rfl, nd, rfl⟩)
    | fail)
  go_ret2
  exact ⟨rfl, Drawn.of _ _⟩
theorem QRow.tail {w : World} {a : Option Addr} {c n : Nat} {x : Int} {l : List Int} {M g : Nat} (h : QRow w (.slice a n c) (x :: l) M g) (hn : n = l.length + 1) :
    ∃ a', (∀ W : World, (Instr.slice 22 (.slice a n c) (some (.int .i64 ((1 : Nat) : Int))) none none).run Try.prog W = .ok (.slice a' l.length (c - 1)) W) ∧ ∀ w', Same (fun b => b ≠ g) w w' → QRow w' (.slice a' l.length (c - 1)) l M g ∧ (Value.slice a' l.length (c - 1)).ownBlock = (Value.slice a n c).ownBlock := by
  subst hn
  rcases h with ⟨_, h0⟩ | ⟨b, o, c', hv, hb, hbg, hblt, hlc, hc63, hcell, hsp, hfz⟩
  · cases h0
  · cases hv
    refine ⟨if c = 1 then some ⟨b, o, none⟩ else some ⟨b, o + 1, none⟩, fun W => ?_, fun w' hs => ?_⟩
    · obtain ⟨i, hi, h2, h3, h4⟩ := info_parts (infoInt).hi
      have hel : (Try.prog).elem 22 = 3 := by simp [Program.elem, infoInt.ht]
      have hu : (Try.prog).underlying 22 = some (.slice ((Try.prog).elem 22)) := by rw [hel]; exact infoInt.ht
      rw [run_slice_l W 22 (some ⟨b, o, none⟩) (l.length + 1) c hu .i64 ((1 : Nat) : Int) (Int.natCast_nonneg _) (by omega), hel]
      simp [sizeOf, typeInfo, hi, h3, sliced, Result.andThen]
      split <;> simp [Addr.add]
    · have h0 : QRow w (if c = 1 then Value.slice (some ⟨b, o, none⟩) l.length (c - 1) else .slice (some ⟨b, o + 1, none⟩) l.length (c - 1)) l M g := by
        simp only [List.length_cons] at hlc hcell
        by_cases hc : c = 1
        · rw [if_pos hc]
          subst hc
          obtain rfl : l = [] := List.eq_nil_of_length_eq_zero (by omega)
          exact .inr ⟨b, o, 0, rfl, hb, hbg, hblt, by simp, by omega, fun j hj => by simp at hj, fun j hj => by omega, hfz⟩
        · rw [if_neg hc]
          refine .inr ⟨b, o + 1, c - 1, rfl, hb, hbg, hblt, by omega, by omega, fun j hj => ?_, fun j hj => ?_, hfz⟩
          · have := hcell (j + 1) (by omega)
            rw [show o + 1 + j = o + (j + 1) from by omega, this]
            simp
          · rw [show o + 1 + j = o + (j + 1) from by omega]
            exact hsp (j + 1) (by omega)
      have := h0.same hs
      refine ⟨?_, by by_cases hc : c = 1 <;> simp [hc, Value.ownBlock]⟩
      by_cases hc : c = 1 <;> simp [hc] at this ⊢ <;> exact this
set_option maxHeartbeats 800000 in
theorem queue_Pop (w : World) (g M : Nat) (rb : Option Nat) (x : Int) (l : List Int) (h : IsQ w g M rb (x :: l)) (hl : l.length ≤ 1099511627776) :
    Calls Try.prog 12 #[.pointer (some ⟨g, 0, none⟩)] w fun e w' => e = .returned (.tuple #[.int .i64 x, .bool true]) ∧ IsQ w' g M rb l ∧ Below M w w' ∧ Same (fun b => b ≠ g) w w' := by
  have h' := h
  obtain ⟨hMg, hss, v, hb, hq, rfl⟩ := h
  obtain ⟨a, c, rfl, hr⟩ := hq.form
  have c1 := cell_snd hb
  have f1 := frozen_of_block (o := 1) hb
  obtain ⟨b, o, rfl, cx⟩ := hr.head
  obtain ⟨a', hcut, hq'⟩ := hq.tail (by simp)
  simp at hcut
  have HQ := Lib.hid hq'
  have HB := Lib.hid hb
  have HS := Lib.hid (List.pairwise_cons.1 hss).2
  have HH := Lib.hid h'
  clear hq hss hb hr hq' h'
  go_enter Try.func12, Try.ntmps12
  go_wp2_with (first
    | (go_at_call 15; refine (queue_Len _ g M _ (x :: l) HH.out).mono ?_; rintro e w1 ⟨rfl, nd, rfl⟩)
    | fail)
  go_ret2
  refine ⟨rfl, ⟨hMg, HS.out, _, block_set2 (w := w.drewN nd) HB.out, (HQ.out _ ((Same.drewN _ _ nd).trans (Same.setCell (p := ⟨g, 1, none⟩) _ _ (fun b hb => hb)))).1, (HQ.out w (Same.refl _ _)).2⟩, ((Drawn.of w nd).below M).setCell (p := ⟨g, 1, none⟩) hMg _, (Same.drewN _ _ nd).trans (Same.setCell (p := ⟨g, 1, none⟩) _ _ (fun b hb => hb))⟩
end Go.Proofs.Sat
