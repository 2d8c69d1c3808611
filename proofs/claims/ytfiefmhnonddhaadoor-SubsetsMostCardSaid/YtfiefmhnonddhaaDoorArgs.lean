/-
  ARGUMENTS THAT CAME IN: slices of numbers.
-/
import Derived.Test.YtfiefmhnonddhaaDoorOpen
import Derived.Test.YtfiefmhnonddhaaDoorApp
import Derived.Lib.SmallJoins
import Derived.OpenShut
namespace Go.Proofs.YtfiefmhnonddhaaDoor
open Go.ChangeShapes Go.WideShapes Go.ChangeAt Go.WideMaps Go.WideElems Go.RowKit Go.Deep Go.Joins

theorem num_of_flat {n₀ : Nat} {w : World} {a : Option Addr} {L : List (Int)} (h : 0 < L.length → ∃ b off, a = some ⟨b, off, none⟩ ∧ b < n₀ ∧ ∀ j u, (nflat L)[j]? = some u → w.cell? ⟨b, off + j, none⟩ = some u) : Nums n₀ w a L := fun hl => by
  obtain ⟨b, off, e, hb, hc⟩ := h hl
  refine ⟨b, off, e, hb, fun i hi => ?_⟩
  have f0 := nflat_at L i hi
  have c0 := hc _ _ f0
  try simp only [← Nat.add_assoc] at c0
  exact c0
section
variable {H : Type} {enc : TypeId × Value → H} {w : World} {base : Nat} {spare : Nat → Bool} {held : Bool}
theorem open_nums {fuel : Nat} {v : Value} {x : DataW H × List MemPlace} (h : DataW.trod enc Tryd.prog w base spare held fuel 22 [v] = some x) :
    ∃ (a : Option Addr) (cap : Nat) (L : List Int), v = .slice a L.length cap ∧ L.length ≤ cap ∧ cap ≤ maxLen ∧ (a = none → cap = 0) ∧ (∀ r ∈ L, (Lit.int .i64 r).wf = true) ∧ Nums w.heap.size w a L := by
  obtain ⟨a, cap, L, h1, h2, h3, h4, h5, h6⟩ := open_rows (P := Tryd.prog) (fun r : Int => [Value.int .i64 r]) 1 (fun r => (Lit.int .i64 r).wf = true) (by decide) (fun _ => rfl) Tryd.underlying22 (by kernel_rfl) (fun n cs' y hl ht => by
    obtain ⟨m, e, _, hw⟩ := DataW.trod_int Tryd.underlying3 ht
    exact ⟨m, e, hw⟩) h
  exact ⟨a, cap, L, h1, h2, h3, h4, h5, num_of_flat h6⟩
theorem lst_of_flat {n₀ : Nat} {w : World} {a : Option Addr} {L : List LstR} (h : 0 < L.length → ∃ b off, a = some ⟨b, off, none⟩ ∧ b < n₀ ∧ ∀ j u, (lflat L)[j]? = some u → w.cell? ⟨b, off + j, none⟩ = some u) : Lsts n₀ w a L := fun hl => by
  obtain ⟨b, off, e, hb, hc⟩ := h hl
  refine ⟨b, off, e, hb, fun i hi => ?_⟩
  have f0 := lflat_at L i hi
  have c0 := hc _ _ f0
  try simp only [← Nat.add_assoc] at c0
  exact c0
instance : Inhabited LstR := ⟨⟨none, [], 0⟩⟩
theorem open_lists {fuel : Nat} {v : Value} {x : DataW H × List MemPlace} (h : DataW.trod enc Tryd.prog w base spare held fuel 38 [v] = some x) :
    ∃ (a : Option Addr) (cap : Nat) (L : List LstR), v = .slice a L.length cap ∧ L.length ≤ cap ∧ cap ≤ maxLen ∧ (a = none → cap = 0) ∧ Lsts w.heap.size w a L ∧ ∀ i, i < L.length → Nums w.heap.size w (lg L i).a (lg L i).xs := by
  obtain ⟨a, cap, L, h1, h2, h3, h4, h5, h6⟩ := open_rows (P := Tryd.prog) (fun r : LstR => [Value.slice r.a r.xs.length r.c]) 1 (fun r => Nums w.heap.size w r.a r.xs) (by decide) (fun _ => rfl) Tryd.underlying38 (by kernel_rfl) (fun n cs' y hl ht => by
    match cs', hl with
    | [v0], _ =>
      obtain ⟨la, lc, X, rfl, _, _, _, _, hn⟩ := open_nums ht
      exact ⟨⟨la, X, lc⟩, rfl, hn⟩) h
  exact ⟨a, cap, L, h1, h2, h3, h4, lst_of_flat h6, fun i hi => h5 _ (by rw [lg_eq L i hi]; exact List.getElem_mem hi)⟩
end
section
variable {H : Type} {enc : TypeId × Value → H} {W : World} {base : Nat}
set_option maxRecDepth 100000 in
theorem open_numsA {v : Value} {d : DataW H} {p : List MemPlace} (hv : Value.okWide Tryd.prog W .any base 22 v) (h : DataW.Trod enc Tryd.prog W 0 (fun _ => true) true 22 v d p) :
    ∃ (a : Option Addr) (cap : Nat) (L : List Int), v = .slice a L.length cap ∧ L.length ≤ cap ∧ cap ≤ maxLen ∧ (a = none → cap = 0) ∧ (∀ r ∈ L, (Lit.int .i64 r).wf = true) ∧ Nums W.heap.size W a L := by
  obtain ⟨a0, len0, cap0, rfl⟩ := okWide_slice Tryd.underlying22 hv
  obtain ⟨fuel, hf⟩ := h
  exact open_nums (v := .slice a0 len0 cap0) hf
set_option maxRecDepth 100000 in
theorem open_listsA {v : Value} {d : DataW H} {p : List MemPlace} (hv : Value.okWide Tryd.prog W .any base 38 v) (h : DataW.Trod enc Tryd.prog W 0 (fun _ => true) true 38 v d p) :
    ∃ (a : Option Addr) (cap : Nat) (L : List LstR), v = .slice a L.length cap ∧ L.length ≤ cap ∧ cap ≤ maxLen ∧ (a = none → cap = 0) ∧ Lsts W.heap.size W a L ∧ ∀ i, i < L.length → Nums W.heap.size W (lg L i).a (lg L i).xs := by
  obtain ⟨a0, len0, cap0, rfl⟩ := okWide_slice Tryd.underlying38 hv
  obtain ⟨fuel, hf⟩ := h
  exact open_lists (v := .slice a0 len0 cap0) hf
end
end Go.Proofs.YtfiefmhnonddhaaDoor
