/-
  PLAIN: line sets, their items, lines and bricks; what the arbor needs, and the imbalance.
-/
import Derived.Test.YtfkmnneieglolaaGreatDoorValid
namespace Go.Proofs.YtfkmnneieglolaaGreatDoor
open Go.RowKit Go.Shelf
structure ItemR where
  name : ByteArray
  pos : Int
  width : Int
  weight : Int
  hang : Int
  front : Int
  back : Int
structure SetR where
  name : ByteArray
  depth : Int
  low : Int
  high : Int
  length : Int
  la : Option Addr
  lines : List Int
  lc : Nat
  pipe : Int
  arbor : Int
  purchase : Int
  most : Int
  brake : Int
  ia : Option Addr
  items : List ItemR
  ic : Nat
  ba : Option Addr
  bricks : List BrickR
  bc : Nat
def betB (n lo hi : Int) : Bool := decide (lo ≤ n) && decide (n ≤ hi)
theorem betB_iff {n lo hi : Int} : betB n lo hi = true ↔ lo ≤ n ∧ n ≤ hi := by unfold betB; rw [Bool.and_eq_true, decide_eq_true_eq, decide_eq_true_eq]
def aloneB (x : ItemR) : Bool := isNameB x.name && (betB x.weight 0 1048576 && (betB x.hang 0 1048576 && (betB x.front 0 1048576 && betB x.back 0 1048576)))
def insideB (x : ItemR) (len : Int) : Bool := decide (0 ≤ x.pos) && (betB x.width 1 1048576 && decide (x.pos ≤ len - x.width))
def apartB (x y : ItemR) : Bool := decide (x.pos + x.width ≤ y.pos) || decide (y.pos + y.width ≤ x.pos)
def item1 (len : Int) (x : ItemR) : Bool := aloneB x && insideB x len
theorem apart_symm (x y : ItemR) : apartB x y = apartB y x := by unfold apartB; rw [Bool.or_comm]
/-- Items are right for a pipe. -/
def itemsB (I : List ItemR) (len : Int) : Bool := decide (I.length ≤ 40) && (I.all (item1 len) && decide (I.Pairwise fun x y => x.name ≠ y.name ∧ apartB x y = true))
def linesB (L : List Int) (len : Int) : Bool := betB L.length 2 10 && (L.all (fun n => betB n 0 len) && decide (L.Pairwise (· < ·)))
def setB (r : SetR) : Bool :=
  isNameB r.name && (betB r.depth 0 1048576 && (decide (0 ≤ r.low) && (decide (r.low ≤ r.high) && (decide (r.high ≤ 1048576) && (betB r.length 1000 1048576 && ((r.length % 1000 == 0) && (linesB r.lines r.length &&
    (betB r.pipe 0 1048576 && (betB r.arbor 0 1048576 && (betB r.purchase 1 2 && (betB r.most 1 67108864 && (betB r.brake 0 67108864 && (itemsB r.items r.length && brickB r.bricks)))))))))))))
structure SetOK (r : SetR) : Prop where
  name : isNameB r.name = true
  depth : 0 ≤ r.depth ∧ r.depth ≤ 1048576
  low : 0 ≤ r.low ∧ r.low ≤ r.high ∧ r.high ≤ 1048576
  length : 1000 ≤ r.length ∧ r.length ≤ 1048576 ∧ r.length % 1000 = 0
  lines : linesB r.lines r.length = true
  pipe : 0 ≤ r.pipe ∧ r.pipe ≤ 1048576
  arbor : 0 ≤ r.arbor ∧ r.arbor ≤ 1048576
  purchase : 1 ≤ r.purchase ∧ r.purchase ≤ 2
  most : 1 ≤ r.most ∧ r.most ≤ 67108864
  brake : 0 ≤ r.brake ∧ r.brake ≤ 67108864
  items : itemsB r.items r.length = true
  bricks : brickB r.bricks = true
theorem setB_iff {r : SetR} : setB r = true ↔ SetOK r := by
  unfold setB
  simp only [Bool.and_eq_true, betB_iff, decide_eq_true_eq, beq_iff_eq]
  constructor
  · rintro ⟨h1, h2, h3, h4, h5, h6, h7, h8, h9, h10, h11, h12, h13, h14, h15⟩
    exact ⟨h1, h2, ⟨h3, h4, h5⟩, ⟨h6.1, h6.2, h7⟩, h8, h9, h10, h11, h12, h13, h14, h15⟩
  · rintro ⟨h1, h2, ⟨h3, h4, h5⟩, ⟨h6, h6', h7⟩, h8, h9, h10, h11, h12, h13, h14, h15⟩
    exact ⟨h1, h2, h3, h4, h5, ⟨h6, h6'⟩, h7, h8, h9, h10, h11, h12, h13, h14, h15⟩
theorem item1_iff {len : Int} {x : ItemR} : item1 len x = true ↔ isNameB x.name = true ∧ (0 ≤ x.weight ∧ x.weight ≤ 1048576) ∧ (0 ≤ x.hang ∧ x.hang ≤ 1048576) ∧ (0 ≤ x.front ∧ x.front ≤ 1048576) ∧ (0 ≤ x.back ∧ x.back ≤ 1048576) ∧ 0 ≤ x.pos ∧ (1 ≤ x.width ∧ x.width ≤ 1048576) ∧ x.pos ≤ len - x.width := by
  unfold item1 aloneB insideB
  simp only [Bool.and_eq_true, betB_iff, decide_eq_true_eq]
  constructor
  · rintro ⟨⟨a, b, c, d, e⟩, f, g, h⟩; exact ⟨a, b, c, d, e, f, g, h⟩
  · rintro ⟨a, b, c, d, e, f, g, h⟩; exact ⟨⟨a, b, c, d, e⟩, f, g, h⟩
theorem items_iff {I : List ItemR} {len : Int} : itemsB I len = true ↔ I.length ≤ 40 ∧ (∀ x ∈ I, item1 len x = true) ∧ I.Pairwise fun x y => x.name ≠ y.name ∧ apartB x y = true := by
  unfold itemsB
  simp only [Bool.and_eq_true, decide_eq_true_eq, List.all_eq_true]
/-! ### Weights -/
def itemsW : List ItemR → Int
  | [] => 0
  | x :: t => x.weight + itemsW t
def pipeS (r : SetR) : Int := r.pipe * (r.length / 1000)
def weightS (r : SetR) : Int := pipeS r + itemsW r.items
def neededS (r : SetR) : Int := weightS r * r.purchase - r.arbor
def balanceS (r : SetR) : Int := neededS r - restC r.bricks
theorem itemsW_bd : ∀ {I : List ItemR}, (∀ x ∈ I, 0 ≤ x.weight ∧ x.weight ≤ 1048576) → 0 ≤ itemsW I ∧ itemsW I ≤ 1048576 * I.length
  | [], _ => ⟨Int.le_refl _, by simp [itemsW]⟩
  | x :: t, h => by
    have h1 := itemsW_bd (I := t) fun y hy => h y (List.mem_cons_of_mem _ hy)
    have h2 := h x (List.mem_cons_self ..)
    simp only [itemsW, List.length_cons]
    omega
theorem pipe_bd {r : SetR} (h : SetOK r) : 0 ≤ pipeS r ∧ pipeS r ≤ 1099511627 := by
  unfold pipeS
  have h1 := h.pipe
  have h2 := h.length
  have h3 : 0 ≤ r.length / 1000 ∧ r.length / 1000 ≤ 1048 := by omega
  refine ⟨Int.mul_nonneg h1.1 h3.1, ?_⟩
  have := Int.mul_le_mul h1.2 h3.2 h3.1 (by omega)
  omega
theorem items_wt {I : List ItemR} {len : Int} (h : itemsB I len = true) : 0 ≤ itemsW I ∧ itemsW I ≤ 41943040 := by
  obtain ⟨h1, h2, _⟩ := items_iff.1 h
  have := itemsW_bd fun x hx => (item1_iff.1 (h2 x hx)).2.1
  omega
theorem weight_bd {r : SetR} (h : SetOK r) : 0 ≤ weightS r ∧ weightS r ≤ 1141454667 := by
  unfold weightS
  have h1 := pipe_bd h
  have h2 := items_wt h.items
  omega
theorem needed_bd {r : SetR} (h : SetOK r) : -1048576 ≤ neededS r ∧ neededS r ≤ 2282909334 := by
  unfold neededS
  have h1 := weight_bd h
  have h2 := h.purchase
  have h3 := h.arbor
  rcases (show r.purchase = 1 ∨ r.purchase = 2 by omega) with e | e <;> rw [e] <;> omega
/-! ### Other counts -/
def withC : List BrickR → List Int → List BrickR
  | b :: t, n :: r => ⟨b.name, b.weight, n⟩ :: withC t r
  | l, _ => l
theorem withC_len : ∀ (L : List BrickR) (c : List Int), (withC L c).length = L.length
  | [], _ => by simp [withC]
  | b :: t, [] => by simp [withC]
  | b :: t, n :: r => by simp only [withC, List.length_cons, withC_len t r]
theorem withC_sum : ∀ {L : List BrickR} {c : List Int}, c.length = L.length → restC (withC L c) = sumC L c
  | [], [], _ => rfl
  | b :: t, n :: r, h => by
    show b.weight * n + restC (withC t r) = b.weight * n + sumC t r
    rw [withC_sum (by simpa using h)]
  | [], _ :: _, h => by simp at h
  | _ :: _, [], h => by simp at h
theorem withC_at : ∀ {L : List BrickR} {c : List Int} {k : Nat}, c.length = L.length → k < L.length → bg (withC L c) k = ⟨(bg L k).name, (bg L k).weight, ig c k⟩
  | [], _, _, _, h => absurd h (Nat.not_lt_zero _)
  | b :: t, n :: r, 0, _, _ => rfl
  | b :: t, n :: r, k + 1, h, hk => withC_at (L := t) (c := r) (k := k) (by simpa using h) (by simpa using hk)
  | _ :: _, [], _, h, _ => by simp at h
end Go.Proofs.YtfkmnneieglolaaGreatDoor
