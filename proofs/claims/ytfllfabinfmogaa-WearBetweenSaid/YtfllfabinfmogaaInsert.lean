/-
  slices.Insert of one number into a row of numbers of the call's own: before one of its elements.
-/
import Derived.Test.YtfllfabinfmogaaBetP
import Derived.Test.YtfllfabinfmogaaSortW
import Derived.Shelf.Spec.SlicesInsert
import Derived.Shelf.Spec.SlicesInsertGrow
namespace Go.Proofs.Ytfllfabinfmogaa
open Go.RowKit Go.Shelf Go.Lib
theorem below_sc {B : Nat} {a : World} (b : Nat) (hb : B ≤ b) : ∀ (vs : List Value) (o : Nat) {w : World}, Below B a w → Below B a (w.setCells b o vs)
  | [], _, _, h => h
  | v :: r, o, _, h => below_sc b hb r (o + 1) (h.setCell (p := ⟨b, o, none⟩) hb v)
theorem isSome_sc (b : Nat) : ∀ (vs : List Value) (o : Nat) (w : World) (q : Addr), (w.cell? q).isSome = true → ((w.setCells b o vs).cell? q).isSome = true
  | [], _, _, _, h => h
  | v :: r, o, w, q, h => by
    refine isSome_sc b r (o + 1) _ q ?_
    by_cases e : q = ⟨b, o, none⟩
    · subst e
      obtain ⟨u, hu⟩ := Option.isSome_iff_exists.1 h
      rw [World.cell?_setCell_same _ _ _ hu]; rfl
    · rw [World.cell?_setCell_other _ _ _ _ (by first | exact e | exact fun x => e x.symm)]
      exact h
theorem drew_sc (b : Nat) : ∀ (vs : List Value) (o : Nat) (w : World), (w.setCells b o vs).drew = w.drew.setCells b o vs
  | [], _, _ => rfl
  | v :: r, o, w => by
    rw [World.setCells, World.setCells, drew_sc b r (o + 1)]
    congr 1
theorem alloc_cell (w : World) (c : Array Value) (t : TypeId) (k : Nat) : (w.alloc (.cells c t)).cell? ⟨w.heap.size, k, none⟩ = c[k]? := by
  unfold World.cell? World.alloc
  simp
theorem nflat_get (L : List Int) (j : Nat) (v : Value) (h : (nflat L)[j]? = some v) : j < L.length ∧ v = .int .i64 (ig L j) := by
  rw [nflat_map, List.getElem?_map] at h
  cases e : L[j]? with
  | none => rw [e] at h; cases h
  | some x =>
    rw [e] at h
    obtain ⟨hj, e2⟩ := List.getElem?_eq_some_iff.1 e
    refine ⟨hj, ?_⟩
    have : v = .int .i64 x := by simpa using h.symm
    rw [this]
    unfold ig
    rw [e]; rfl
theorem row_cell {w : World} {g : Nat} {L : List Int} {t : TypeId} {cur : Array Value} (hg : w.heap[g]? = some (.cells cur t (0, 0))) (h4 : cur.toList.take (L.length * 1) = nflat L) (j : Nat) (v : Value) (h : (nflat L)[j]? = some v) : w.cell? ⟨g, 0 + j, none⟩ = some v := by
  rw [← h4, List.getElem?_take] at h
  split at h
  · have e : cur[j]? = some v := by simpa using h
    unfold World.cell?
    simp [hg, e]
  · cases h
theorem row_some {w : World} {g cap : Nat} {t : TypeId} {cur : Array Value} (hg : w.heap[g]? = some (.cells cur t (0, 0))) (hs : cur.size = cap) (j : Nat) (hj : j < cap) : (w.cell? ⟨g, 0 + j, none⟩).isSome = true := by
  unfold World.cell?
  simp [hg, Array.getElem?_eq_getElem (show j < cur.size by omega)]
theorem row_free {w : World} {g : Nat} {t : TypeId} {cur : Array Value} (hg : w.heap[g]? = some (.cells cur t (0, 0))) (j : Nat) : w.frozen? ⟨g, j, none⟩ = false := by
  unfold World.frozen?
  simp [hg]
theorem nflat_one (L : List Int) : ∀ v ∈ nflat L, v.oneCell' = true := by
  rw [nflat_map]
  intro v hv
  obtain ⟨x, _, rfl⟩ := List.mem_map.1 hv
  rfl
theorem nflat_len' (L : List Int) : (nflat L).length = L.length := by rw [nflat_map, List.length_map]
theorem nflat_at' (L : List Int) (j : Nat) (h : j < L.length) : (nflat L)[j]? = some (.int .i64 (ig L j)) := by
  rw [nflat_map, List.getElem?_map, List.getElem?_eq_getElem h, ig_eq L j h]; rfl
/-- What stands in a row behind an insertion. -/
theorem ins_cells {w : World} {b i : Nat} {L : List Int} {x : Int} (hi : i < L.length) (lo : ∀ j, j < i → w.cell? ⟨b, j, none⟩ = some (.int .i64 (ig L j))) (hs : ∀ j, j < L.length + 1 → (w.cell? ⟨b, j, none⟩).isSome = true) (j : Nat) (hj : j < L.length + 1) :
    ((w.setCells b (i + 1) ((nflat L).drop i)).setCells b i [.int .i64 x]).cell? ⟨b, j, none⟩ = some (.int .i64 (ig (insL L i x) j)) ∧ ((w.setCells b i [.int .i64 x]).setCells b (i + 1) ((nflat L).drop i)).cell? ⟨b, j, none⟩ = some (.int .i64 (ig (insL L i x) j)) := by
  have dl : ((nflat L).drop i).length = L.length - i := by rw [List.length_drop, nflat_len']
  have s1 : ∀ q, (w.cell? q).isSome = true → ((w.setCells b (i + 1) ((nflat L).drop i)).cell? q).isSome = true := fun q hq => isSome_sc b _ _ _ q hq
  have s2 : ∀ q, (w.cell? q).isSome = true → ((w.setCells b i [.int .i64 x]).cell? q).isSome = true := fun q hq => isSome_sc b _ _ _ q hq
  rcases Nat.lt_trichotomy j i with c | c | c
  · rw [ins_lo (by omega) c]
    refine ⟨?_, ?_⟩
    · rw [World.cell?_setCells_out b _ _ _ _ (fun _ _ => .inl c), World.cell?_setCells_out b _ _ _ _ (fun _ _ => .inl (by simp only; omega))]
      exact lo j c
    · rw [World.cell?_setCells_out b _ _ _ _ (fun _ _ => .inl (by simp only; omega)), World.cell?_setCells_out b _ _ _ _ (fun _ _ => .inl c)]
      exact lo j c
  · subst c
    rw [ins_at (by omega)]
    refine ⟨?_, ?_⟩
    · have := World.cell?_setCells_in b [.int .i64 x] j (w.setCells b (j + 1) ((nflat L).drop j)) (fun k hk => by
        have : k = 0 := by simpa using hk
        subst this
        exact s1 _ (hs (j + 0) (by omega))) 0 (by simp)
      simpa using this
    · rw [World.cell?_setCells_out b _ _ _ _ (fun _ _ => .inl (by simp only; omega))]
      have := World.cell?_setCells_in b [.int .i64 x] j w (fun k hk => by
        have : k = 0 := by simpa using hk
        subst this
        exact hs (j + 0) (by omega)) 0 (by simp)
      simpa using this
  · obtain ⟨k, rfl⟩ : ∃ k, j = k + 1 := ⟨j - 1, by omega⟩
    rw [ins_hi (by omega) (by omega)]
    have gk : ((nflat L).drop i)[k - i]'(by rw [dl]; omega) = .int .i64 (ig L k) := by
      have h := nflat_at' L k (by omega)
      obtain ⟨h1, h2⟩ := List.getElem?_eq_some_iff.1 h
      rw [List.getElem_drop]
      rw [← h2]
      congr 1
      omega
    refine ⟨?_, ?_⟩
    · rw [World.cell?_setCells_out b _ _ _ _ (fun _ _ => .inr (by simp only [List.length_cons, List.length_nil]; omega))]
      have := World.cell?_setCells_in b ((nflat L).drop i) (i + 1) w (fun m hm => hs (i + 1 + m) (by rw [dl] at hm; omega)) (k - i) (by rw [dl]; omega)
      rw [show i + 1 + (k - i) = k + 1 by omega, gk] at this
      exact this
    · have := World.cell?_setCells_in b ((nflat L).drop i) (i + 1) (w.setCells b i [.int .i64 x]) (fun m hm => s2 _ (hs (i + 1 + m) (by rw [dl] at hm; omega))) (k - i) (by rw [dl]; omega)
      rw [show i + 1 + (k - i) = k + 1 by omega, gk] at this
      exact this
variable {P : Program} {ρ : Ren}
/-- slices.Insert, of one number, at a row of the call's own. -/
theorem num_insert (Ly : Lays2.n21 P ρ) {w : World} {base g cap vb i : Nat} {L : List Int} {x : Int} {t : TypeId} (h : w.ownsRow base t 1 (.slice (some ⟨g, 0, none⟩) L.length cap) L.length (nflat L)) (hi : i < L.length) (hl : L.length ≤ 1000) (hne : vb ≠ g) (hv : w.cell? ⟨vb, 0, none⟩ = some (.int .i64 x)) {tA : TypeId} (hs : w.shape? vb = some (tA, 1)) (hf : ∀ j, w.frozen? ⟨vb, j, none⟩ = false) :
    Calls P (ρ.f 21) #[.slice (some ⟨g, 0, none⟩) L.length cap, .int .i64 i, .slice (some ⟨vb, 0, none⟩) 1 1] w fun e w' => Hid (∃ a c, e = .returned (.slice a (L.length + 1) c) ∧ Nums w'.heap.size w' a (insL L i x)) ∧ Below base w w' := by
  obtain ⟨cur, hb, hg, h1, h2, h3, h4⟩ := row_block h
  have hlt : g < w.heap.size := (Array.getElem?_eq_some_iff.1 hg).1
  have hbs : base ≤ w.heap.size := by omega
  have hcs : ∀ j v, (nflat L)[j]? = some v → w.cell? ⟨g, 0 + j, none⟩ = some v := fun j v hj => row_cell hg h4 j v hj
  have hvs : ∀ j v, ([.int .i64 x] : List Value)[j]? = some v → w.cell? ⟨vb, 0 + j, none⟩ = some v := fun j v hj => by
    cases j with
    | zero => have : v = .int .i64 x := by simpa using hj.symm
              rw [this]; exact hv
    | succ j => simp at hj
  have h1v : ∀ v ∈ ([.int .i64 x] : List Value), v.oneCell' = true := fun v hv => by
    have : v = .int .i64 x := by simpa using hv
    rw [this]; rfl
  have il : (insL L i x).length = L.length + 1 := ins_len (by omega)
  by_cases room : L.length + 1 ≤ cap
  · refine (Any2.slices_Insert_int_shift Ly g 0 L.length cap i vb 0 1 1 (nflat L) [.int .i64 x] w hi (by decide) room (by unfold maxLen at h2; omega) hne (nflat_len' L) rfl hcs (fun j hj => row_some hg (by omega) j (by omega)) (fun j _ => row_free hg _) hvs (nflat_one L) h1v tA t 1 cap hs ?_ (by omega) (hf 0) (hf 1)).mono fun e w' ⟨he, hw⟩ => ⟨Lib.hid ⟨_, cap, he, fun _ => ⟨g, 0, rfl, ?_, fun j hj => ?_⟩⟩, ?_⟩
    · unfold World.shape?
      simp [hg]; omega
    · have bz : w.heap.size ≤ w'.heap.size := by
        rw [hw]
        exact (below_sc (a := w) g (B := 0) (Nat.zero_le _) _ _ (below_sc g (Nat.zero_le _) _ _ (Below.refl 0 w).drew)).size
      omega
    · rw [hw, Nat.zero_add, Nat.zero_add, Nat.zero_add]
      rw [il] at hj
      exact (ins_cells hi (fun k hk => by rw [World.cell?_drew]; have := hcs k _ (nflat_at' L k (by omega)); rwa [Nat.zero_add] at this) (fun k hk => by rw [World.cell?_drew]; have := row_some hg (show cur.size = cap by omega) k (by omega); rwa [Nat.zero_add] at this) j hj).1
    · rw [hw]
      exact below_sc g hb _ _ (below_sc g hb _ _ (Below.refl base w).drew)
  · refine (Any2.slices_Insert_int_grow Ly g 0 L.length cap i vb 0 1 1 (nflat L) [.int .i64 x] w hi (by decide) h1 (by omega) (by omega) (nflat_len' L) rfl hcs hvs (nflat_one L) h1v).mono fun e w' ⟨he, hw⟩ => ⟨Lib.hid ⟨_, _, he, fun _ => ⟨w.heap.size, 0, rfl, ?_, fun j hj => ?_⟩⟩, ?_⟩
    · have bz : w.heap.size + 1 ≤ w'.heap.size := by
        rw [hw]
        have := (below_sc (B := 0) w.heap.size (Nat.zero_le _) ((nflat L).drop i) (i + 1) (below_sc w.heap.size (Nat.zero_le _) [.int .i64 x] i (Below.refl 0 (w.alloc (.cells ((List.take i (nflat L)).toArray ++ Builtin.zeroCells (Value.int .i64 0).cells (L.length + 1 - i) ++ Builtin.zeroCells (Value.int .i64 0).cells (grownCap w (L.length + 1) cap (ρ.t 3) - (L.length + 1))) (ρ.t 3)))).drew).drew).size
        refine Nat.le_trans ?_ this
        simp
      omega
    · rw [hw, Nat.zero_add]
      rw [il] at hj
      rw [drew_sc]
      refine (ins_cells (b := w.heap.size) hi (fun k hk => ?_) (fun k hk => ?_) j hj).2
      · rw [World.cell?_drew, World.cell?_drew]
        have e := nflat_at' L k (by omega)
        rw [alloc_cell, Array.append_assoc, Array.getElem?_append_left (by simp [nflat_len']; omega)]
        rw [List.getElem?_toArray, List.getElem?_take, if_pos hk]
        exact e
      · rw [World.cell?_drew, World.cell?_drew, alloc_cell]
        rw [Array.getElem?_eq_getElem]
        · rfl
        · have z : (Value.int .i64 0).cells.size = 1 := rfl
          simp only [Array.size_append, List.size_toArray, List.length_take, nflat_len', size_zeroCells, z]
          omega
    · rw [hw]
      refine below_sc w.heap.size hbs _ _ (below_sc w.heap.size hbs _ _ ?_).drew
      exact ((below_new w _).mono hbs).drew
def ins_ren : Ren := ⟨fun | 21 => 25 | 27 => 36 | 28 => 37 | 35 => 50 | 39 => 69 | n => n, fun | 3 => 3 | 4 => 4 | 22 => 25 | n => n, fun | n => n⟩
theorem ins_lays : Lays2.n21 Try.prog ins_ren where
  mixed := by kernel_rfl
  f21 := Try.func25.trans (congrArg some (by kernel_rfl))
  f27 := Try.func36.trans (congrArg some (by kernel_rfl))
  f28 := Try.func37.trans (congrArg some (by kernel_rfl))
  f35 := Try.func50.trans (congrArg some (by kernel_rfl))
  f39 := Try.func69.trans (congrArg some (by kernel_rfl))
  t0 := Try.underlying0
  a0 := Try.isAgg0
  z0 := Try.sizeOf0
  v0 := Try.zeroValue0
  t3 := Try.underlying3
  a3 := Try.isAgg3
  z3 := Try.sizeOf3
  v3 := Try.zeroValue3
  t4 := Try.underlying4
  a4 := Try.isAgg4
  z4 := Try.sizeOf4
  v4 := Try.zeroValue4
  t22 := Try.underlying25
  a22 := Try.isAgg25
  z22 := Try.sizeOf25
  v22 := Try.zeroValue25
  i3 := by kernel_rfl
theorem num_ins {w : World} {base g cap vb i : Nat} {L : List Int} {x : Int} (h : w.ownsRow base 3 1 (.slice (some ⟨g, 0, none⟩) L.length cap) L.length (nflat L)) (hi : i < L.length) (hl : L.length ≤ 1000) (hne : vb ≠ g) (hv : w.cell? ⟨vb, 0, none⟩ = some (.int .i64 x)) {tA : TypeId} (hs : w.shape? vb = some (tA, 1)) (hf : ∀ j, w.frozen? ⟨vb, j, none⟩ = false) :
    Calls Try.prog 25 #[.slice (some ⟨g, 0, none⟩) L.length cap, .int .i64 i, .slice (some ⟨vb, 0, none⟩) 1 1] w fun e w' => Hid (∃ a c, e = .returned (.slice a (L.length + 1) c) ∧ Nums w'.heap.size w' a (insL L i x)) ∧ Below base w w' := num_insert ins_lays h hi hl hne hv hs hf
end Go.Proofs.Ytfllfabinfmogaa
