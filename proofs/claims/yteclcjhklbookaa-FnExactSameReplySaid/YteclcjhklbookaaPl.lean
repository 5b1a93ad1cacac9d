/- Plain lemmas on lists, texts and whole numbers, for the pure laws. -/
import Derived.Test.YteclcjhklbookaaWMore
namespace Go.Proofs.YteclcjhklbookaaW.Pl
open Go Go.RowKit Go.Proofs.YteclcjhklbookaaW.PrintWords Go.Proofs.YteclcjhklbookaaW.PrintMore
theorem w64 {i : Int} (h0 : -9223372036854775808 ≤ i) (h1 : i ≤ 9223372036854775807) : wrap64 i = i := by unfold wrap64; omega
theorem fuel {k d : Nat} (h : d < k) : ∃ m, k = m + 1 ∧ d ≤ m := ⟨k - 1, by omega, by omega⟩
theorem rdOf_at {α : Type} (d : α) (xs : List α) (i : Nat) (h : i < xs.length) : rdOf d xs (i : Int) = xs[i] := by
  unfold rdOf
  simp [List.getD, h]
theorem rd_at (xs : List Int) (i : Nat) (h : i < xs.length) : rd xs (i : Int) = xs[i] := by
  unfold rd
  simp [List.getD, h]
theorem getD_at {α : Type} (d : α) (xs : List α) (i : Nat) (h : i < xs.length) : xs.getD (i : Int).toNat d = xs[i] := by
  simp [List.getD, h]
theorem drop_at {α : Type} (xs : List α) (i : Nat) (h : i < xs.length) : xs.drop i = xs[i] :: xs.drop (i + 1) := List.drop_eq_getElem_cons h
theorem ba_toList (a : ByteArray) : a.toList = a.data.toList := ByteArray.toList_eq a
theorem ba_ext {a b : ByteArray} (h : a.toList = b.toList) : a = b := by
  rw [ba_toList, ba_toList] at h
  cases a; cases b
  simp at h
  rw [h]
theorem ba_beq (a b : ByteArray) : (a.toList == b.toList) = decide (a = b) := by
  by_cases h : a = b
  · subst h; simp
  · have : ¬ a.toList = b.toList := fun e => h (ba_ext e)
    simp [h, this]
/-- A loop that fills a row, place by place. -/
theorem map_loop {α β : Type} (g : Nat → List β → Int → Option (List β)) (xs : List α) (c : α → β)
    (hstep : ∀ (k : Nat) (ys : List β) (i : Nat) (h : i < xs.length), ys.length = xs.length → g (k + 1) ys (i : Int) = g k (ys.set i (c xs[i])) ((i + 1 : Nat) : Int))
    (hend : ∀ (k : Nat) (ys : List β), ys.length = xs.length → g (k + 1) ys (xs.length : Int) = some ys) :
    ∀ (d k i : Nat) (ys : List β), i + d = xs.length → d < k → ys.length = xs.length → g k ys (i : Int) = some (ys.take i ++ (xs.drop i).map c) := by
  intro d
  induction d with
  | zero =>
    intro k i ys hi hk hy
    obtain ⟨k, rfl, _⟩ := fuel hk
    obtain rfl : i = xs.length := by omega
    rw [hend k ys hy, List.drop_length, List.take_of_length_le (by omega)]
    simp
  | succ d ih =>
    intro k i ys hi hk hy
    obtain ⟨k, rfl, _⟩ := fuel hk
    have hlt : i < xs.length := by omega
    have ht : (ys.set i (c xs[i])).take (i + 1) = ys.take i ++ [c xs[i]] := by
      rw [List.take_succ_eq_append_getElem (by simp; omega), List.getElem_set_self, List.take_set_of_le (Nat.le_refl _)]
    rw [hstep k ys i hlt hy, ih k (i + 1) _ (by omega) (by omega) (by simp [hy]), ht, drop_at xs i hlt, List.map_cons, List.append_assoc]
    rfl
theorem map_loop0 {α β : Type} (g : Nat → List β → Int → Option (List β)) (xs : List α) (c : α → β)
    (hstep : ∀ (k : Nat) (ys : List β) (i : Nat) (h : i < xs.length), ys.length = xs.length → g (k + 1) ys (i : Int) = g k (ys.set i (c xs[i])) ((i + 1 : Nat) : Int))
    (hend : ∀ (k : Nat) (ys : List β), ys.length = xs.length → g (k + 1) ys (xs.length : Int) = some ys) {k : Nat} (hk : xs.length < k) (z : β) : g k (List.replicate xs.length z) 0 = some (xs.map c) := by
  have := map_loop g xs c hstep hend xs.length k 0 (List.replicate xs.length z) (by omega) hk (by simp)
  simpa using this
/-- Two rows, place by place. -/
def all2 {α β : Type} (e : α → β → Bool) : List α → List β → Bool
  | [], _ => true
  | _ :: _, [] => true
  | x :: xs, y :: ys => e x y && all2 e xs ys
theorem all2_loop {α β : Type} (g : Nat → Int → Option Bool) (xs : List α) (ys : List β) (hl : xs.length = ys.length) (e : α → β → Bool)
    (hstep : ∀ (k i : Nat) (h : i < xs.length), g (k + 1) (i : Int) = if e xs[i] (ys[i]'(hl ▸ h)) = true then g k ((i + 1 : Nat) : Int) else some false)
    (hend : ∀ k, g (k + 1) (xs.length : Int) = some true) : ∀ (d k i : Nat), i + d = xs.length → d < k → g k (i : Int) = some (all2 e (xs.drop i) (ys.drop i)) := by
  intro d
  induction d with
  | zero =>
    intro k i hi hk
    obtain ⟨k, rfl, _⟩ := fuel hk
    obtain rfl : i = xs.length := by omega
    rw [hend, List.drop_length]; rfl
  | succ d ih =>
    intro k i hi hk
    obtain ⟨k, rfl, _⟩ := fuel hk
    have hlt : i < xs.length := by omega
    rw [hstep k i hlt, drop_at xs i hlt, drop_at ys i (by omega)]
    by_cases h : e xs[i] (ys[i]'(hl ▸ hlt)) = true
    · rw [if_pos h, ih k (i + 1) (by omega) (by omega)]
      simp [all2, h]
    · rw [if_neg h]
      simp [all2, h]
theorem all2_refl {α : Type} (e : α → α → Bool) (h : ∀ x, e x x = true) : ∀ xs : List α, all2 e xs xs = true
  | [] => rfl
  | x :: xs => by simp [all2, h x, all2_refl e h xs]
theorem all2_eq {α : Type} (e : α → α → Bool) (h : ∀ x y, e x y = true ↔ x = y) : ∀ xs ys : List α, xs.length = ys.length → (all2 e xs ys = true ↔ xs = ys)
  | [], [], _ => by simp [all2]
  | [], _ :: _, hl => by simp at hl
  | _ :: _, [], hl => by simp at hl
  | x :: xs, y :: ys, hl => by simp [all2, h x y, all2_eq e h xs ys (by simpa using hl)]
/-- A loop that asks each place, till one says no. -/
theorem all_loop {α : Type} (g : Nat → Int → Option Bool) (xs : List α) (q : α → Bool)
    (hstep : ∀ (k i : Nat) (h : i < xs.length), g (k + 1) (i : Int) = if q xs[i] = true then g k ((i + 1 : Nat) : Int) else some false)
    (hend : ∀ k, g (k + 1) (xs.length : Int) = some true) : ∀ (d k i : Nat), i + d = xs.length → d < k → g k (i : Int) = some ((xs.drop i).all q) := by
  intro d
  induction d with
  | zero =>
    intro k i hi hk
    obtain ⟨k, rfl, _⟩ := fuel hk
    obtain rfl : i = xs.length := by omega
    rw [hend, List.drop_length]; rfl
  | succ d ih =>
    intro k i hi hk
    obtain ⟨k, rfl, _⟩ := fuel hk
    have hlt : i < xs.length := by omega
    rw [hstep k i hlt, drop_at xs i hlt]
    by_cases h : q xs[i] = true
    · rw [if_pos h, ih k (i + 1) (by omega) (by omega), List.all_cons, h, Bool.true_and]
    · rw [if_neg h, List.all_cons, Bool.eq_false_iff.mpr h, Bool.false_and]
/-- A loop that looks for the first place at which p holds. -/
def first {α : Type} (p : α → Bool) : List α → Nat → Int
  | [], _ => -1
  | x :: xs, i => if p x = true then i else first p xs (i + 1)
theorem first_any {α : Type} (p : α → Bool) : ∀ (xs : List α) (i : Nat), decide (first p xs i ≥ 0) = xs.any p
  | [], i => rfl
  | x :: xs, i => by
    by_cases h : p x = true
    · simp [first, h]
    · simp only [first, if_neg h, List.any_cons, first_any p xs (i + 1)]
      simp [h]
theorem first_loop {α : Type} (g : Nat → Int → Option Int) (xs : List α) (p : α → Bool)
    (hstep : ∀ (k i : Nat) (h : i < xs.length), g (k + 1) (i : Int) = if p xs[i] = true then some (i : Int) else g k ((i + 1 : Nat) : Int))
    (hend : ∀ k, g (k + 1) (xs.length : Int) = some (-1)) : ∀ (d k i : Nat), i + d = xs.length → d < k → g k (i : Int) = some (first p (xs.drop i) i) := by
  intro d
  induction d with
  | zero =>
    intro k i hi hk
    obtain ⟨k, rfl, _⟩ := fuel hk
    obtain rfl : i = xs.length := by omega
    rw [hend, List.drop_length]; rfl
  | succ d ih =>
    intro k i hi hk
    obtain ⟨k, rfl, _⟩ := fuel hk
    have hlt : i < xs.length := by omega
    rw [hstep k i hlt, drop_at xs i hlt]
    by_cases h : p xs[i] = true
    · rw [if_pos h]
      simp [first, h]
    · rw [if_neg h, ih k (i + 1) (by omega) (by omega)]
      simp [first, h]
/-- A loop that takes sizes off a number, till it falls below nought. -/
def total {α : Type} (s : α → Nat) : List α → Nat
  | [] => 0
  | x :: xs => s x + total s xs
theorem total_le {α : Type} (s : α → Nat) : ∀ (xs : List α) (x : α), x ∈ xs → s x ≤ total s xs
  | _ :: xs, x, h => by
    rcases List.mem_cons.1 h with rfl | h
    · simp [total]
    · have := total_le s xs x h
      simp [total]; omega
def less {α : Type} (s : α → Nat) : List α → Int → Int
  | [], l => l
  | x :: xs, l => if l - s x < 0 then -1 else less s xs (l - s x)
theorem less_is {α : Type} (s : α → Nat) : ∀ (xs : List α) (l : Int), 0 ≤ l → less s xs l = if l < total s xs then -1 else l - total s xs
  | [], l, h => by simp [less, total]; omega
  | x :: xs, l, h => by
    have ht : ((total s (x :: xs) : Nat) : Int) = s x + total s xs := by simp [total]
    rw [ht]
    simp only [less]
    by_cases h1 : l - s x < 0
    · rw [if_pos h1, if_pos (by omega)]
    · rw [if_neg h1, less_is s xs _ (by omega)]
      by_cases h2 : l < s x + total s xs
      · rw [if_pos (by omega), if_pos (by omega)]
      · rw [if_neg (by omega), if_neg (by omega)]; omega
theorem less_loop {α : Type} (g : Nat → Int → Int → Option Int) (xs : List α) (s : α → Nat)
    (hstep : ∀ (k i : Nat) (l : Int) (h : i < xs.length), 0 ≤ l → l ≤ 1048576 → g (k + 1) l (i : Int) = if l - s xs[i] < 0 then some (-1) else g k (l - s xs[i]) ((i + 1 : Nat) : Int))
    (hend : ∀ k l, g (k + 1) l (xs.length : Int) = some l) : ∀ (d k i : Nat) (l : Int), i + d = xs.length → d < k → 0 ≤ l → l ≤ 1048576 → g k l (i : Int) = some (less s (xs.drop i) l) := by
  intro d
  induction d with
  | zero =>
    intro k i l hi hk h0 h1
    obtain ⟨k, rfl, _⟩ := fuel hk
    obtain rfl : i = xs.length := by omega
    rw [hend, List.drop_length]; rfl
  | succ d ih =>
    intro k i l hi hk h0 h1
    obtain ⟨k, rfl, _⟩ := fuel hk
    have hlt : i < xs.length := by omega
    rw [hstep k i l hlt h0 h1, drop_at xs i hlt]
    by_cases h : l - s xs[i] < 0
    · rw [if_pos h]; simp [less, h]
    · rw [if_neg h, ih k (i + 1) _ (by omega) (by omega) (by omega) (by omega)]
      simp [less, h]
end Go.Proofs.YteclcjhklbookaaW.Pl
