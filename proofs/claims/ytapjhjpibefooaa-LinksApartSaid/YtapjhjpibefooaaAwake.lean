/-
  THE WALKS of the laws' own helpers: example, awake (the chapter's example holds), large.
-/
import Derived.Test.YtapjhjpibefooaaStarts
import Derived.Test.YtapjhjpibefooaaChainN
import Derived.Test.YtapjhjpibefooaaClash
namespace Go.Proofs.Ytapjhjpibefooaa
open Go.RowKit Go.Shelf

def sA : ByteArray := ⟨#[97]⟩
def sB : ByteArray := ⟨#[98]⟩
def sC : ByteArray := ⟨#[99]⟩
def L37 : List CueR := [⟨sA, ⟨#[]⟩, 1, 0, none, 0, 0, 0, 0⟩, ⟨sB, sA, 2, 20, none, 0, 0, 0, 0⟩, ⟨sC, sB, 3, 5, none, 0, 0, 0, 0⟩]
def A37 : List (ByteArray × ByteArray) := [(sA, sB), (sB, sC)]
theorem starts37 : startsP L37 A37 [500, 100, 100] [1000] = ([1000, 1520, 1525], 0) := by decide +kernel
theorem chain37 : chainNP L37 A37 sC = ([sC, sB, sA], 0) := by decide +kernel
theorem clash37 : clashP L37 A37 [1000, 1520, 1525] [500, 100, 100] = ([(1, sC)], 0) := by decide +kernel

theorem cues_new (w : World) (n : Nat) (L : List CueR) (h : n = L.length) (hl : n ≤ 1000) : Cues (w.alloc (.cells (cflat L).toArray 56)).heap.size (w.alloc (.cells (cflat L).toArray 56)) (some ⟨w.heap.size, 0, none⟩) L := by
  subst h
  obtain ⟨a, cap, e, _, _, _, hc⟩ := cue_of_row (World.ownsRow_lit (base := 0) (e := 56) (size := 7) w (cflat L).toArray L.length (Nat.zero_le _) (by unfold maxLen; omega) (by simp [cue_len]))
  cases e
  exact hc
theorem pairs_new (w : World) (n : Nat) (L : List (ByteArray × ByteArray)) (h : n = L.length) (hl : n ≤ 1000) : Pairs (w.alloc (.cells (pflat L).toArray 52)).heap.size (w.alloc (.cells (pflat L).toArray 52)) (some ⟨w.heap.size, 0, none⟩) L := by
  subst h
  obtain ⟨a, cap, e, _, _, _, hc⟩ := pair_of_row (World.ownsRow_lit (base := 0) (e := 52) (size := 2) w (pflat L).toArray L.length (Nat.zero_le _) (by unfold maxLen; omega) (by simp [pair_len]))
  cases e
  exact hc
theorem nums_new (w : World) (n : Nat) (L : List Int) (h : n = L.length) (hl : n ≤ 1000) : Nums (w.alloc (.cells (nflat L).toArray 3)).heap.size (w.alloc (.cells (nflat L).toArray 3)) (some ⟨w.heap.size, 0, none⟩) L := by
  subst h
  obtain ⟨a, cap, e, _, _, _, hc⟩ := num_of_row (World.ownsRow_lit (base := 0) (e := 3) (size := 1) w (nflat L).toArray L.length (Nat.zero_le _) (by unfold maxLen; omega) (by simp [num_len]))
  cases e
  exact hc
theorem strs_new (w : World) (n : Nat) (L : List ByteArray) (h : n = L.length) (hl : n ≤ 1000) : Strs (w.alloc (.cells (sflat L).toArray 9)).heap.size (w.alloc (.cells (sflat L).toArray 9)) (some ⟨w.heap.size, 0, none⟩) L := by
  subst h
  obtain ⟨a, cap, e, _, _, _, hc⟩ := str_of_row (World.ownsRow_lit (base := 0) (e := 9) (size := 1) w (sflat L).toArray L.length (Nat.zero_le _) (by unfold maxLen; omega) (by simp [str_len]))
  cases e
  exact hc
theorem finds_new (w : World) (n : Nat) (L : List (Int × ByteArray)) (h : n = L.length) (hl : n ≤ 1000) : Finds (w.alloc (.cells (flat L).toArray 50)).heap.size (w.alloc (.cells (flat L).toArray 50)) (some ⟨w.heap.size, 0, none⟩) L := by
  subst h
  obtain ⟨a, cap, e, _, _, _, hc⟩ := fin_of_row (World.ownsRow_lit (base := 0) (e := 50) (size := 2) w (flat L).toArray L.length (Nat.zero_le _) (by unfold maxLen; omega) (by simp [fin_len]))
  cases e
  exact hc

set_option maxRecDepth 100000 in
set_option maxHeartbeats 4000000 in
theorem example_any (w : World) : Calls Try.prog 43 #[] w fun e w' => Hid (∃ ca pa, e = .returned (.agg #[.slice ca 3 3, .slice pa 2 2]) ∧ Cues w'.heap.size w' ca L37 ∧ Pairs w'.heap.size w' pa A37) ∧ Below w.heap.size w w' := by
  go_enter Try.func43, Try.ntmps43
  go_wp2
  refine bodyPost_ret (v := .agg #[.slice (some ⟨w.heap.size + 1, 0, none⟩) 3 3, .slice (some ⟨w.heap.size + 1 + 1, 0, none⟩) 2 2]) (by simp [results, Try.results43, go_sem]) rfl ⟨Lib.hid ⟨_, _, rfl, ?_, ?_⟩, ?_⟩
  · have h := (cues_new (w.alloc (.cells #[.slice (some ⟨w.heap.size + 1, 0, none⟩) 3 3, .slice (some ⟨w.heap.size + 1 + 1, 0, none⟩) 2 2] 25)) 3 L37 rfl (by decide)).grow (below_new _ (.cells (pflat A37).toArray 52))
    rw [World.size_alloc w] at h
    exact h
  · have h := pairs_new ((w.alloc (.cells #[.slice (some ⟨w.heap.size + 1, 0, none⟩) 3 3, .slice (some ⟨w.heap.size + 1 + 1, 0, none⟩) 2 2] 25)).alloc (.cells (cflat L37).toArray 56)) 2 A37 rfl (by decide)
    rw [World.size_alloc (w.alloc _), World.size_alloc w] at h
    exact h
  · exact ((below_new w _).alloc (by simp) _).alloc (by simp; omega) _

theorem starts_ex (ca pa na ga : Option Addr) (w : World) (hc : Cues w.heap.size w ca L37) (hp : Pairs w.heap.size w pa A37) (hn : Nums w.heap.size w na [500, 100, 100]) (hg : Nums w.heap.size w ga [1000]) :
    Calls Try.prog 12 #[.agg #[.slice ca 3 3, .slice pa 2 2], .slice na 3 3, .slice ga 1 1] w fun e w' => Hid (∃ a c, e = .returned (.tuple #[.slice a 3 c, .int .i64 0]) ∧ Nums w'.heap.size w' a [1000, 1520, 1525]) ∧ Below w.heap.size w w' :=
  (starts_any ca pa na ga L37 A37 [500, 100, 100] [1000] 3 2 3 1 w (by decide) (by decide) (by decide) hc hp hn hg).mono fun e w' h => by
    obtain ⟨v, he, hr, hb⟩ := h.out
    rw [starts37] at he hr
    obtain ⟨a, c, rfl, _, _, _, hN⟩ := num_of_row hr
    exact ⟨Lib.hid ⟨a, c, he, hN⟩, hb⟩
theorem chain_ex (ca pa : Option Addr) (w : World) (hc : Cues w.heap.size w ca L37) (hp : Pairs w.heap.size w pa A37) :
    Calls Try.prog 13 #[.agg #[.slice ca 3 3, .slice pa 2 2], .string ⟨#[99]⟩] w fun e w' => Hid (∃ a c, e = .returned (.tuple #[.slice a 3 c, .int .i64 0]) ∧ Strs w'.heap.size w' a [sC, sB, sA]) ∧ Below w.heap.size w w' :=
  (chainN_any ca pa L37 A37 3 2 sC w (by decide) hc hp).mono fun e w' h => by
    obtain ⟨v, he, hr, hb⟩ := h.out
    rw [chain37] at he hr
    obtain ⟨a, c, rfl, _, _, _, hN⟩ := str_of_row hr
    exact ⟨Lib.hid ⟨a, c, he, hN⟩, hb⟩
theorem clash_ex (ca pa sa na : Option Addr) (sc : Nat) (w : World) (hc : Cues w.heap.size w ca L37) (hp : Pairs w.heap.size w pa A37) (hs : Nums w.heap.size w sa [1000, 1520, 1525]) (hn : Nums w.heap.size w na [500, 100, 100]) :
    Calls Try.prog 20 #[.agg #[.slice ca 3 3, .slice pa 2 2], .slice sa 3 sc, .slice na 3 3] w fun e w' => Hid (∃ a c, e = .returned (.tuple #[.slice a 1 c, .int .i64 0]) ∧ Finds w'.heap.size w' a [(1, sC)]) ∧ Below w.heap.size w w' :=
  (clash_any ca pa sa na L37 A37 [1000, 1520, 1525] [500, 100, 100] 3 2 sc 3 w (by decide) (by decide) (by decide) hc hp hs hn).mono fun e w' h => by
    obtain ⟨v, he, hr, hb⟩ := h.out
    rw [clash37] at he hr
    obtain ⟨a, c, rfl, _, _, _, hN⟩ := fin_of_row hr
    exact ⟨Lib.hid ⟨a, c, he, hN⟩, hb⟩
theorem eqn_ex (a1 a2 : Option Addr) (c1 : Nat) (w : World) (h1 : Nums w.heap.size w a1 [1000, 1520, 1525]) (h2 : Nums w.heap.size w a2 [1000, 1520, 1525]) :
    Calls Try.prog 16 #[.slice a1 3 c1, .slice a2 3 3] w fun e w' => e = .returned (.bool true) ∧ Below w.heap.size w w' :=
  (num_equal a1 a2 [1000, 1520, 1525] [1000, 1520, 1525] c1 3 w (by decide) h1 h2 (by decide)).mono fun e w' h => by rw [decide_eq_true rfl] at h; exact h
theorem eqs_ex (a1 a2 : Option Addr) (c1 : Nat) (w : World) (h1 : Strs w.heap.size w a1 [sC, sB, sA]) (h2 : Strs w.heap.size w a2 [sC, sB, sA]) :
    Calls Try.prog 19 #[.slice a1 3 c1, .slice a2 3 3] w fun e w' => e = .returned (.bool true) ∧ Below w.heap.size w w' :=
  (str_equal a1 a2 [sC, sB, sA] [sC, sB, sA] c1 3 w (by decide) h1 h2 (by decide)).mono fun e w' h => by rw [decide_eq_true rfl] at h; exact h
theorem eqf_ex (a1 a2 : Option Addr) (c1 : Nat) (w : World) (h1 : Finds w.heap.size w a1 [(1, sC)]) (h2 : Finds w.heap.size w a2 [(1, sC)]) :
    Calls Try.prog 22 #[.slice a1 1 c1, .slice a2 1 1] w fun e w' => e = .returned (.bool true) ∧ Below w.heap.size w w' :=
  (fin_equal a1 a2 [(1, sC)] [(1, sC)] c1 1 w (by decide) h1 h2 (by decide)).mono fun e w' h => by rw [decide_eq_true rfl] at h; exact h

set_option maxRecDepth 100000 in
set_option maxHeartbeats 8000000 in
theorem awake_any (w : World) : Calls Try.prog 10 #[] w fun e w' => e = .returned (.bool true) ∧ Below w.heap.size w w' := by
  go_enter Try.func10, Try.ntmps10
  go_wp2_with fail
  refine (example_any w).mono ?_
  rintro e w1 ⟨hx, hb1⟩
  obtain ⟨ca1, pa1, rfl, hc1, hp1⟩ := hx.out
  have HB1 := Lib.hid hb1
  have HN := Lib.hid ((nums_new w1 3 [500, 100, 100] rfl (by decide)).grow (below_new _ (.cells #[.int .i64 1000] 3)))
  have HG : Hid (Nums ((w1.alloc (.cells #[.int .i64 500, .int .i64 100, .int .i64 100] 3)).alloc (.cells #[.int .i64 1000] 3)).heap.size ((w1.alloc (.cells #[.int .i64 500, .int .i64 100, .int .i64 100] 3)).alloc (.cells #[.int .i64 1000] 3)) (some ⟨w1.heap.size + 1, 0, none⟩) [1000]) := Lib.hid (by
    have h := nums_new (w1.alloc (.cells #[.int .i64 500, .int .i64 100, .int .i64 100] 3)) 1 [1000] rfl (by decide)
    rw [World.size_alloc w1] at h
    exact h)
  have hb2' : Below w1.heap.size w1 ((w1.alloc (.cells #[.int .i64 500, .int .i64 100, .int .i64 100] 3)).alloc (.cells #[.int .i64 1000] 3)) := (below_new w1 _).alloc (by simp) _
  have HB2 := Lib.hid (hb1.trans (hb2'.mono hb1.size))
  have HC2 := Lib.hid (hc1.grow hb2')
  have HP2 := Lib.hid (hp1.grow hb2')
  clear hx hc1 hp1 hb1 hb2'
  go_wp2_with fail
  refine (starts_ex _ _ _ _ _ HC2.out HP2.out HN.out HG.out).mono ?_
  rintro e w2 ⟨hx, hb2⟩
  obtain ⟨a2, c2, rfl, hn2⟩ := hx.out
  have HB3 := Lib.hid (HB2.out.trans (hb2.mono HB2.out.size))
  have HS := Lib.hid hn2
  clear hx hn2 hb2 HC2 HP2 HN HG
  go_wp2_with fail
  refine (example_any _).mono ?_
  rintro e w3 ⟨hx, hb3⟩
  obtain ⟨ca3, pa3, rfl, hc3, hp3⟩ := hx.out
  have HC3 := Lib.hid hc3
  have HP3 := Lib.hid hp3
  have HS3 := Lib.hid (HS.out.grow hb3)
  have HB4 := Lib.hid (HB3.out.trans (hb3.mono HB3.out.size))
  clear hx hc3 hp3 hb3 HS
  go_wp2_with fail
  refine (chain_ex _ _ _ HC3.out HP3.out).mono ?_
  rintro e w4 ⟨hx, hb4⟩
  obtain ⟨a4, c4, rfl, hs4⟩ := hx.out
  have HT := Lib.hid hs4
  have HS4 := Lib.hid (HS3.out.grow hb4)
  have HB5 := Lib.hid (HB4.out.trans (hb4.mono HB4.out.size))
  clear hx hs4 hb4 HS3 HC3 HP3
  go_wp2_with fail
  refine (example_any _).mono ?_
  rintro e w5 ⟨hx, hb5⟩
  obtain ⟨ca5, pa5, rfl, hc5, hp5⟩ := hx.out
  have hb6 : Below w5.heap.size w5 (w5.alloc (.cells #[.int .i64 500, .int .i64 100, .int .i64 100] 3)) := below_new _ _
  have HN6 := Lib.hid (nums_new w5 3 [500, 100, 100] rfl (by decide))
  have HC6 := Lib.hid (hc5.grow hb6)
  have HP6 := Lib.hid (hp5.grow hb6)
  have HS6 := Lib.hid ((HS4.out.grow hb5).grow hb6)
  have HT6 := Lib.hid ((HT.out.grow hb5).grow hb6)
  have HB6 := Lib.hid ((HB5.out.trans (hb5.mono HB5.out.size)).trans (hb6.mono (by have := HB5.out.size; have := hb5.size; omega)))
  clear hx hc5 hp5 hb5 hb6 HS4 HT
  go_wp2_with fail
  refine (clash_ex _ _ _ _ _ _ HC6.out HP6.out HS6.out HN6.out).mono ?_
  rintro e w7 ⟨hx, hb7⟩
  obtain ⟨a7, c7, rfl, hf7⟩ := hx.out
  have hb8 : Below w7.heap.size w7 (w7.alloc (.cells #[.int .i64 1000, .int .i64 1520, .int .i64 1525] 3)) := below_new _ _
  have HE := Lib.hid (nums_new w7 3 [1000, 1520, 1525] rfl (by decide))
  have HS8 := Lib.hid ((HS6.out.grow hb7).grow hb8)
  have HT8 := Lib.hid ((HT6.out.grow hb7).grow hb8)
  have HF8 := Lib.hid (hf7.grow hb8)
  have HB8 := Lib.hid ((HB6.out.trans (hb7.mono HB6.out.size)).trans (hb8.mono (by have := HB6.out.size; have := hb7.size; omega)))
  clear hx hf7 hb7 hb8 HS6 HT6 HC6 HP6 HN6
  go_wp2_with fail
  refine (eqn_ex _ _ _ _ HS8.out HE.out).mono ?_
  rintro e w9 ⟨rfl, hb9⟩
  have hb10 : Below w9.heap.size w9 (w9.alloc (.cells #[.string ⟨#[99]⟩, .string ⟨#[98]⟩, .string ⟨#[97]⟩] 9)) := below_new _ _
  have HE10 := Lib.hid (strs_new w9 3 [sC, sB, sA] rfl (by decide))
  have HT10 := Lib.hid ((HT8.out.grow hb9).grow hb10)
  have HF10 := Lib.hid ((HF8.out.grow hb9).grow hb10)
  have HB10 := Lib.hid ((HB8.out.trans (hb9.mono HB8.out.size)).trans (hb10.mono (by have := HB8.out.size; have := hb9.size; omega)))
  clear hb9 hb10 HS8 HT8 HF8 HE
  go_wp2_with fail
  refine (eqs_ex _ _ _ _ HT10.out HE10.out).mono ?_
  rintro e w11 ⟨rfl, hb11⟩
  have hb12 : Below w11.heap.size w11 (w11.alloc (.cells #[.int .i64 1, .string ⟨#[99]⟩] 50)) := below_new _ _
  have HE12 := Lib.hid (finds_new w11 1 [(1, sC)] rfl (by decide))
  have HF12 := Lib.hid ((HF10.out.grow hb11).grow hb12)
  have HB12 := Lib.hid ((HB10.out.trans (hb11.mono HB10.out.size)).trans (hb12.mono (by have := HB10.out.size; have := hb11.size; omega)))
  clear hb11 hb12 HT10 HF10 HE10
  go_wp2_with fail
  refine (eqf_ex _ _ _ _ HF12.out HE12.out).mono ?_
  rintro e w13 ⟨rfl, hb13⟩
  go_wp2_with fail
  go_ret
  exact ⟨rfl, HB12.out.trans (hb13.mono HB12.out.size)⟩
end Go.Proofs.Ytapjhjpibefooaa
