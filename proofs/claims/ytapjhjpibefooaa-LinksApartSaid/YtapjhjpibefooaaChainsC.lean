/-
  What the closures of the laws LinksChains and LinksApart answer.
-/
import Derived.Test.YtapjhjpibefooaaAfterC
namespace Go.Proofs.Ytapjhjpibefooaa
open Go.RowKit Go.Shelf

theorem ent_chainsC (args : Array Value) (w : World) : (callFunc 34 args).run Try.prog w = .ok (.enter 34 args) w := enters_of Try.func34 (by kernel_rfl) rfl args w
set_option maxHeartbeats 1000000 in
theorem asks_chainsC (bx : Nat) (s : ByteArray) (n₀ : Nat) (w : World) (hbx : bx < n₀) (hc : w.cell? ⟨bx, 0, none⟩ = some (.string s)) :
    AsksC 34 #[.pointer (some ⟨bx, 0, none⟩)] n₀ w (fun r => decide (r.name = s)) := by
  intro W r hB
  have hc' := (hB.cell (p := ⟨bx, 0, none⟩) hbx).trans hc
  have hc2 : ∀ o, (W.alloc o).cell? ⟨bx, 0, none⟩ = some (.string s) := fun o => ((Below.refl W.heap.size W).alloc (Nat.le_refl _) o |>.cell (p := ⟨bx, 0, none⟩) (World.block_lt_of_cell? W _ hc')).trans hc'
  have H := Lib.hid (str_eq r.name s)
  show Calls _ _ #[cueV r, .pointer (some ⟨bx, 0, none⟩)] _ _
  unfold cueV
  go_enter Try.func34, Try.ntmps34
  go_wp2
  go_ret
  exact ⟨ret_bool H.out, (Below.refl _ _).alloc (Nat.le_refl _) _⟩
theorem ent_chainsF (args : Array Value) (w : World) : (callFunc 33 args).run Try.prog w = .ok (.enter 33 args) w := enters_of Try.func33 (by kernel_rfl) rfl args w
set_option maxHeartbeats 1000000 in
theorem chains_find (ca : Option Addr) (L : List CueR) (cc bx : Nat) (name : ByteArray) (w : World) (hl : L.length ≤ 1000) (hc : w.cell? ⟨bx, 0, none⟩ = some (.slice ca L.length cc)) (hI : Cues w.heap.size w ca L) :
    Calls Try.prog 33 #[.string name, .pointer (some ⟨bx, 0, none⟩)] w fun e w' => e = .returned (.int .i64 (findI L name)) ∧ Below w.heap.size w w' := by
  have hbx := World.block_lt_of_cell? _ _ hc
  have hc1 : ∀ o, (w.alloc o).cell? ⟨bx, 0, none⟩ = some (.slice ca L.length cc) := fun o => ((below_new w o).cell (p := ⟨bx, 0, none⟩) hbx).trans hc
  have HI : Hid (∀ o, Cues (w.alloc o).heap.size (w.alloc o) ca L) := Lib.hid fun o => hI.grow (below_new w o)
  have hb0 := hbx
  clear hI hc
  go_enter Try.func33, Try.ntmps33
  go_wp2_with (go_at_call 24; (with_reducible refine (cue_indexFunc ca L _ _ _ _ (fun r => decide (r.name = name)) _ ent_chainsC (by omega) (Nat.le_refl _) (HI.out _) (asks_chainsC w.heap.size name _ _ (by simp) (by simp))).mono ?_); rintro e w6 ⟨rfl, hb6⟩)
  go_ret
  exact ⟨rfl, mono_in _ hb6⟩
theorem ent_apartC (args : Array Value) (w : World) : (callFunc 25 args).run Try.prog w = .ok (.enter 25 args) w := enters_of Try.func25 (by kernel_rfl) rfl args w
set_option maxHeartbeats 1000000 in
theorem asks_apartC (bx : Nat) (s : ByteArray) (n₀ : Nat) (w : World) (hbx : bx < n₀) (hc : w.cell? ⟨bx, 0, none⟩ = some (.string s)) :
    AsksC 25 #[.pointer (some ⟨bx, 0, none⟩)] n₀ w (fun r => decide (r.name = s)) := by
  intro W r hB
  have hc' := (hB.cell (p := ⟨bx, 0, none⟩) hbx).trans hc
  have hc2 : ∀ o, (W.alloc o).cell? ⟨bx, 0, none⟩ = some (.string s) := fun o => ((Below.refl W.heap.size W).alloc (Nat.le_refl _) o |>.cell (p := ⟨bx, 0, none⟩) (World.block_lt_of_cell? W _ hc')).trans hc'
  have H := Lib.hid (str_eq r.name s)
  show Calls _ _ #[cueV r, .pointer (some ⟨bx, 0, none⟩)] _ _
  unfold cueV
  go_enter Try.func25, Try.ntmps25
  go_wp2
  go_ret
  exact ⟨ret_bool H.out, (Below.refl _ _).alloc (Nat.le_refl _) _⟩
theorem ent_apartF (args : Array Value) (w : World) : (callFunc 23 args).run Try.prog w = .ok (.enter 23 args) w := enters_of Try.func23 (by kernel_rfl) rfl args w
set_option maxHeartbeats 1000000 in
theorem apart_find (ca : Option Addr) (L : List CueR) (cc bx : Nat) (name : ByteArray) (w : World) (hl : L.length ≤ 1000) (hc : w.cell? ⟨bx, 0, none⟩ = some (.slice ca L.length cc)) (hI : Cues w.heap.size w ca L) :
    Calls Try.prog 23 #[.string name, .pointer (some ⟨bx, 0, none⟩)] w fun e w' => e = .returned (.int .i64 (findI L name)) ∧ Below w.heap.size w w' := by
  have hbx := World.block_lt_of_cell? _ _ hc
  have hc1 : ∀ o, (w.alloc o).cell? ⟨bx, 0, none⟩ = some (.slice ca L.length cc) := fun o => ((below_new w o).cell (p := ⟨bx, 0, none⟩) hbx).trans hc
  have HI : Hid (∀ o, Cues (w.alloc o).heap.size (w.alloc o) ca L) := Lib.hid fun o => hI.grow (below_new w o)
  have hb0 := hbx
  clear hI hc
  go_enter Try.func23, Try.ntmps23
  go_wp2_with (go_at_call 24; (with_reducible refine (cue_indexFunc ca L _ _ _ _ (fun r => decide (r.name = name)) _ ent_apartC (by omega) (Nat.le_refl _) (HI.out _) (asks_apartC w.heap.size name _ _ (by simp) (by simp))).mono ?_); rintro e w6 ⟨rfl, hb6⟩)
  go_ret
  exact ⟨rfl, mono_in _ hb6⟩
end Go.Proofs.Ytapjhjpibefooaa
