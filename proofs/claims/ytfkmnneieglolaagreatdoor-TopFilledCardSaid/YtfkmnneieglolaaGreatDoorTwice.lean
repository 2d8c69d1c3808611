/-
  NAMES THAT COME TWICE (batten.twice, at items and at bricks).
-/
import Derived.Test.YtfkmnneieglolaaGreatDoorItem
import Derived.Maps.OwnOps
import Derived.Maps.OwnSet
import Derived.Maps.Views
namespace Go.Proofs.YtfkmnneieglolaaGreatDoor
open Go.RowKit Go.Shelf Go.Maps Go.WideMaps
attribute [local go_sem] Oper.semAt_some
def keyLs (l : List ByteArray) : List Lit := l.map fun s => .string s.data.toList
theorem keyLs_is (l : List ByteArray) : ∀ x ∈ keyLs l, WideAt.IsKeyLit x := by
  intro x hx
  unfold keyLs at hx
  rw [List.mem_map] at hx
  obtain ⟨s, _, rfl⟩ := hx
  trivial
theorem any_mem (acc : List Lit) (x : Lit) (hx : WideAt.IsKeyLit x) : acc.any (fun y => y.sameKey x) = true ↔ x ∈ acc := by
  rw [List.any_eq_true]
  constructor
  · rintro ⟨y, hy, e⟩
    rw [← WideAt.sameKey_eq e]; exact hy
  · exact fun h => ⟨x, h, WideAt.sameKey_self hx⟩
theorem addKey_len : ∀ (xs acc : List Lit), (∀ x ∈ xs, WideAt.IsKeyLit x) → (xs.foldl addKey acc).length ≤ acc.length + xs.length ∧ ((xs.foldl addKey acc).length < acc.length + xs.length ↔ ¬ (xs.Nodup ∧ ∀ x ∈ xs, x ∉ acc))
  | [], acc, _ => ⟨Nat.le_refl _, by simp⟩
  | x :: r, acc, h => by
    have hx := h x (List.mem_cons_self ..)
    rw [List.foldl_cons, List.length_cons]
    by_cases hm : x ∈ acc
    · rw [show addKey acc x = acc by unfold addKey; rw [if_pos ((any_mem acc x hx).2 hm)]]
      have h1 := (addKey_len r acc fun y hy => h y (List.mem_cons_of_mem _ hy)).1
      refine ⟨by omega, fun _ q => q.2 x (List.mem_cons_self ..) hm, fun _ => by omega⟩
    · rw [show addKey acc x = acc ++ [x] by unfold addKey; rw [if_neg fun q => hm ((any_mem acc x hx).1 q)]]
      obtain ⟨h1, h2⟩ := addKey_len r (acc ++ [x]) fun y hy => h y (List.mem_cons_of_mem _ hy)
      rw [List.length_append, List.length_singleton] at h1 h2
      refine ⟨by omega, ?_⟩
      rw [show acc.length + (r.length + 1) = acc.length + 1 + r.length by omega, h2]
      apply not_congr
      rw [List.nodup_cons]
      simp only [List.mem_append, List.mem_cons, not_or]
      constructor
      · rintro ⟨a, b⟩
        refine ⟨⟨fun q => (b x q).2.1 rfl, a⟩, fun y hy => ?_⟩
        rcases hy with rfl | hy
        · exact hm
        · exact (b y hy).1
      · rintro ⟨⟨a, b⟩, c⟩
        exact ⟨b, fun y hy => ⟨c y (.inr hy), fun e => a (e ▸ hy), fun h => by cases h⟩⟩
def twiceB (l : List ByteArray) : Bool := decide (¬ l.Nodup)
theorem keyLs_nodup (l : List ByteArray) : (keyLs l).Nodup ↔ l.Nodup := by
  unfold keyLs
  induction l with
  | nil => simp
  | cons s t ih =>
    rw [List.map_cons, List.nodup_cons, List.nodup_cons, ih, List.mem_map]
    constructor
    · rintro ⟨a, b⟩
      exact ⟨fun q => a ⟨s, q, rfl⟩, b⟩
    · rintro ⟨a, b⟩
      refine ⟨?_, b⟩
      rintro ⟨t', h1, h2⟩
      apply a
      have : t' = s := by
        obtain ⟨⟨x⟩⟩ := t'
        obtain ⟨⟨y⟩⟩ := s
        simp at h2
        rw [h2]
      rw [← this]; exact h1
def NameD (l : List ByteArray) : DataW Unit := setOf (.agg []) (keyLs l)
theorem nameD_size (l : List ByteArray) : Maps.size (NameD l) ≤ l.length ∧ decide (Maps.size (NameD l) < l.length) = twiceB l := by
  unfold NameD
  rw [size_setOf _ _ (keyLs_is l)]
  obtain ⟨h1, h2⟩ := addKey_len (keyLs l) [] (keyLs_is l)
  have e : (keyLs l).length = l.length := by unfold keyLs; rw [List.length_map]
  rw [List.length_nil, Nat.zero_add, e] at h1 h2
  refine ⟨h1, ?_⟩
  unfold twiceB
  rw [Bool.eq_iff_iff, decide_eq_true_eq, decide_eq_true_eq, ← keyLs_nodup l]
  have h3 : (∀ x ∈ keyLs l, x ∉ ([] : List Lit)) := fun _ _ h => by cases h
  rw [h2]
  exact not_congr ⟨fun h => h.1, fun h => ⟨h, h3⟩⟩
theorem nameD_next (l : List ByteArray) (s : ByteArray) : (NameD l).put (.string s.data.toList) (.agg []) = NameD (l ++ [s]) := by
  unfold NameD keyLs
  rw [List.map_append, List.map_cons, List.map_nil, setOf_snoc]
theorem nameD_nil : NameD [] = .map [] := rfl
theorem keyedN : Keyed Tryz.prog 9 := string_keyed Tryz.underlying9
theorem below_map {H : Type} {w w' : World} {b n : Nat} {D : DataW H} {R : Value → Option (DataW H × List MemPlace)} {k : TypeId} {P : Program} (h : w.ownsMap P k R b n D) (hB : Below w.heap.size w w') : w'.ownsMap P k R b n D := by
  have hlt := h.lt
  obtain ⟨es, clock, hb, F, hs, hD⟩ := h
  exact ⟨es, clock, (hB.block b hlt).trans hb, F, hs, hD⟩
theorem twice_grow {w wr w2 w3 : World} {o : Obj} (hB : Below w.heap.size w wr) (h2 : Below (wr.alloc o).heap.size (wr.alloc o) w2) (h3 : w2.grownBy w3 (some w.heap.size)) : Below w.heap.size w w3 :=
  have h4 : Below w.heap.size w w2 := hB.trans ((mono_in _ h2).mono hB.size)
  h4.grown h3 h4.size (fun j hj => by cases hj; exact Nat.le_refl _)
theorem item_names_next (L : List ItemR) {k : Nat} (h : k < L.length) : (L.take (k + 1)).map (·.name) = (L.take k).map (·.name) ++ [(tg L k).name] := by
  rw [List.take_succ_eq_append_getElem h, List.map_append, tg_eq L k h]
  rfl
set_option maxHeartbeats 1000000 in
theorem item_name_any (r : ItemR) (w : World) :
    Calls Tryz.prog 77 #[.agg #[.string r.name, .int .i64 r.pos, .int .i64 r.width, .int .i64 r.weight, .int .i64 r.hang, .int .i64 r.front, .int .i64 r.back]] w fun e w' => e = .returned (.string r.name) ∧ Below w.heap.size w w' := by
  go_enter Tryz.func77, Tryz.ntmps77
  go_wp2_with fail
  go_ret
  exact ⟨rfl, (Below.refl _ _).alloc (Nat.le_refl _) _⟩
set_option maxRecDepth 100000 in
set_option maxHeartbeats 4000000 in
theorem item_twice (a : Option Addr) (L : List ItemR) (cap n₀ : Nat) (w : World) (hn₀ : n₀ ≤ w.heap.size) (hl : L.length ≤ 1000) (hs : ∀ x ∈ L, x.name.size ≤ 1000) (h : Items n₀ w a L) :
    Calls Tryz.prog 76 #[.slice a L.length cap, .func (.func 77) #[] #[]] w fun e w' => e = .returned (.bool (twiceB (L.map (·.name)))) ∧ Below w.heap.size w w' := by
  have HL := Lib.hid h
  have HS : Hid (∀ k, k < L.length → (tg L k).name.size ≤ 1000) := Lib.hid fun k hk => hs _ (by rw [tg_eq L k hk]; exact List.getElem_mem hk)
  clear h hs
  have hmm := @run_makeMap Tryz.prog
  go_enter Tryz.func76, Tryz.ntmps76
  go_wp2
  go_loopw [11] (fun i wr => ∃ k : Nat, k ≤ L.length ∧ i = .int .i64 k ∧ Hid (wr.ownsMap Tryz.prog 9 unitElem w.heap.size k (NameD ((L.take k).map (·.name)))) ∧ Below w.heap.size w wr) (fun i _ => L.length - (intOf i).toNat)
  case atStart => exact ⟨0, Nat.zero_le _, rfl, Lib.hid (World.ownsMap_made _ _ _ _), (Below.refl _ _).alloc (Nat.le_refl _) _⟩
  case round =>
    obtain ⟨k, hk, rfl, HO, hB⟩ := hrel
    by_cases hlt : k < L.length
    · obtain ⟨b, off, rfl, hb, hx⟩ := HL.out (by omega)
      obtain ⟨e0, e1, e2, e3, e4, e5, e6⟩ := hx k hlt
      have d0 := (hB.cell (p := ⟨b, _, none⟩) (show b < w.heap.size by omega)).trans e0
      have d1 := (hB.cell (p := ⟨b, _, none⟩) (show b < w.heap.size by omega)).trans e1
      have d2 := (hB.cell (p := ⟨b, _, none⟩) (show b < w.heap.size by omega)).trans e2
      have d3 := (hB.cell (p := ⟨b, _, none⟩) (show b < w.heap.size by omega)).trans e3
      have d4 := (hB.cell (p := ⟨b, _, none⟩) (show b < w.heap.size by omega)).trans e4
      have d5 := (hB.cell (p := ⟨b, _, none⟩) (show b < w.heap.size by omega)).trans e5
      have d6 := (hB.cell (p := ⟨b, _, none⟩) (show b < w.heap.size by omega)).trans e6
      have HSZ := Lib.hid (HS.out k hlt)
      have HN := Lib.hid (item_names_next L hlt)
      generalize hr : tg L k = r at *
      clear hx hr e0 e1 e2 e3 e4 e5 e6
      go_wp2_with (first
        | (go_at_call 77; (with_reducible refine (item_name_any r _).mono ?_); rintro e w2 ⟨rfl, hb2⟩; have HB2 := Lib.hid hb2; clear hb2)
        | (at_mapUpdate; refine wpList_mapUpdate_own _ rfl _ _ _ 151 rfl 9 152 keyedN Tryz.underlying151 unitElem w.heap.size k (NameD ((L.take k).map (·.name))) rfl (below_map (HO.out.alloc _) HB2.out) (by unfold maxLen; omega) (.string r.name) (.agg #[]) (.string r.name.data.toList) rfl rfl (keyOf_string_mk Tryz.underlying9 (by have := HSZ.out; unfold maxLen; omega)) (.agg []) [] unitElem_mk ?_; intro w3 hown3 hgrow3; rw [nameD_next, ← HN.out] at hown3; have HO3 := Lib.hid hown3; have HG3 := Lib.hid hgrow3; clear hown3 hgrow3))
      go_roundw
      case rel => exact ⟨k + 1, by omega, by go_num, HO3, twice_grow hB HB2.out HG3.out⟩
      case measure => simp [intOf]; omega
    · obtain rfl : k = L.length := by omega
      rw [List.take_length] at HO
      obtain ⟨n1, n2⟩ := nameD_size (L.map (·.name))
      rw [List.length_map] at n1 n2
      have HE := Lib.hid n2
      clear n2 hlt
      go_wp2_with (at_len; refine wpList_len_own _ rfl _ 151 rfl 9 152 Tryz.underlying151 unitElem w.heap.size L.length _ rfl HO.out ?_)
      go_ret
      exact ⟨ret_bool HE.out, hB⟩
theorem brick_names_next (L : List BrickR) {k : Nat} (h : k < L.length) : (L.take (k + 1)).map (·.name) = (L.take k).map (·.name) ++ [(bg L k).name] := by
  rw [List.take_succ_eq_append_getElem h, List.map_append, bg_eq L k h]
  rfl
set_option maxHeartbeats 1000000 in
theorem brick_name_any (r : BrickR) (w : World) :
    Calls Tryz.prog 84 #[.agg #[.string r.name, .int .i64 r.weight, .int .i64 r.count]] w fun e w' => e = .returned (.string r.name) ∧ Below w.heap.size w w' := by
  go_enter Tryz.func84, Tryz.ntmps84
  go_wp2_with fail
  go_ret
  exact ⟨rfl, (Below.refl _ _).alloc (Nat.le_refl _) _⟩
set_option maxRecDepth 100000 in
set_option maxHeartbeats 4000000 in
theorem brick_twice (a : Option Addr) (L : List BrickR) (cap n₀ : Nat) (w : World) (hn₀ : n₀ ≤ w.heap.size) (hl : L.length ≤ 1000) (hs : ∀ x ∈ L, x.name.size ≤ 1000) (h : Bricks n₀ w a L) :
    Calls Tryz.prog 83 #[.slice a L.length cap, .func (.func 84) #[] #[]] w fun e w' => e = .returned (.bool (twiceB (L.map (·.name)))) ∧ Below w.heap.size w w' := by
  have HL := Lib.hid h
  have HS : Hid (∀ k, k < L.length → (bg L k).name.size ≤ 1000) := Lib.hid fun k hk => hs _ (by rw [bg_eq L k hk]; exact List.getElem_mem hk)
  clear h hs
  have hmm := @run_makeMap Tryz.prog
  go_enter Tryz.func83, Tryz.ntmps83
  go_wp2
  go_loopw [11] (fun i wr => ∃ k : Nat, k ≤ L.length ∧ i = .int .i64 k ∧ Hid (wr.ownsMap Tryz.prog 9 unitElem w.heap.size k (NameD ((L.take k).map (·.name)))) ∧ Below w.heap.size w wr) (fun i _ => L.length - (intOf i).toNat)
  case atStart => exact ⟨0, Nat.zero_le _, rfl, Lib.hid (World.ownsMap_made _ _ _ _), (Below.refl _ _).alloc (Nat.le_refl _) _⟩
  case round =>
    obtain ⟨k, hk, rfl, HO, hB⟩ := hrel
    by_cases hlt : k < L.length
    · obtain ⟨b, off, rfl, hb, hx⟩ := HL.out (by omega)
      obtain ⟨e0, e1, e2⟩ := hx k hlt
      have d0 := (hB.cell (p := ⟨b, _, none⟩) (show b < w.heap.size by omega)).trans e0
      have d1 := (hB.cell (p := ⟨b, _, none⟩) (show b < w.heap.size by omega)).trans e1
      have d2 := (hB.cell (p := ⟨b, _, none⟩) (show b < w.heap.size by omega)).trans e2
      have HSZ := Lib.hid (HS.out k hlt)
      have HN := Lib.hid (brick_names_next L hlt)
      generalize hr : bg L k = r at *
      clear hx hr e0 e1 e2
      go_wp2_with (first
        | (go_at_call 84; (with_reducible refine (brick_name_any r _).mono ?_); rintro e w2 ⟨rfl, hb2⟩; have HB2 := Lib.hid hb2; clear hb2)
        | (at_mapUpdate; refine wpList_mapUpdate_own _ rfl _ _ _ 151 rfl 9 152 keyedN Tryz.underlying151 unitElem w.heap.size k (NameD ((L.take k).map (·.name))) rfl (below_map (HO.out.alloc _) HB2.out) (by unfold maxLen; omega) (.string r.name) (.agg #[]) (.string r.name.data.toList) rfl rfl (keyOf_string_mk Tryz.underlying9 (by have := HSZ.out; unfold maxLen; omega)) (.agg []) [] unitElem_mk ?_; intro w3 hown3 hgrow3; rw [nameD_next, ← HN.out] at hown3; have HO3 := Lib.hid hown3; have HG3 := Lib.hid hgrow3; clear hown3 hgrow3))
      go_roundw
      case rel => exact ⟨k + 1, by omega, by go_num, HO3, twice_grow hB HB2.out HG3.out⟩
      case measure => simp [intOf]; omega
    · obtain rfl : k = L.length := by omega
      rw [List.take_length] at HO
      obtain ⟨n1, n2⟩ := nameD_size (L.map (·.name))
      rw [List.length_map] at n1 n2
      have HE := Lib.hid n2
      clear n2 hlt
      go_wp2_with (at_len; refine wpList_len_own _ rfl _ 151 rfl 9 152 Tryz.underlying151 unitElem w.heap.size L.length _ rfl HO.out ?_)
      go_ret
      exact ⟨ret_bool HE.out, hB⟩
end Go.Proofs.YtfkmnneieglolaaGreatDoor
