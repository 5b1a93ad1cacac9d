/- CodeWord and CodeOf, walked: the table of words lies in the first block. -/
import Derived.Test.YtkmamnhengeakaaDoorQ7
import Derived.Test.YtkmamnhengeakaaDoorQ9
import Derived.Test.YtkmamnhengeakaaDoorQ10
namespace Go.Proofs.YtkmamnhengeakaaDoor.Q
open Go.RowKit Go.Proofs.YtkmamnhengeakaaDoorW.PrintWords Go.Proofs.YtkmamnhengeakaaDoorW.PrintLast Go.Proofs.YtkmamnhengeakaaDoorW.PrintMore
set_option linter.unusedVariables false
set_option linter.unusedSimpArgs false
/-- The words of the codes. -/
def words : List ByteArray := [⟨#[111, 107]⟩, ⟨#[98, 97, 100]⟩, ⟨#[108, 111, 110, 103]⟩, ⟨#[102, 111, 114, 109]⟩, ⟨#[114, 97, 110, 103, 101]⟩, ⟨#[110, 111, 110, 101]⟩, ⟨#[109, 97, 110, 121]⟩, ⟨#[102, 117, 108, 108]⟩, ⟨#[116, 121, 112, 101]⟩, ⟨#[100, 101, 101, 112]⟩, ⟨#[115, 105, 122, 101]⟩, ⟨#[110, 97, 109, 101]⟩, ⟨#[116, 119, 105, 99, 101]⟩, ⟨#[112, 108, 97, 99, 101]⟩, ⟨#[112, 97, 116, 104]⟩, ⟨#[99, 111, 110, 102, 108, 105, 99, 116]⟩, ⟨#[112, 105, 118, 111, 116]⟩, ⟨#[115, 116, 97, 116, 101]⟩, ⟨#[98, 117, 115, 121]⟩, ⟨#[111, 114, 100, 101, 114]⟩]
/-- The table lies where the program lays it. -/
structure Table (w : World) : Prop where mk :: (out : Kd.C Kd.string w (some ⟨0, 0, none⟩) words.length words)
theorem Table.below {w w1 : World} (h : Table w) (hb : Below w.heap.size w w1) : Table w1 := ⟨Kd.C_below h.out hb⟩
theorem word_in (a0 : Int) (w : World) (hT : Table w) (h0 : 0 ≤ a0) (h1 : a0 < 20) :
    Calls Tryd.prog 6 #[.int .i64 a0] w fun e w' => e = .returned (.string (rdOf ByteArray.empty words a0)) ∧ Drawn0 w w' := by
  have hp : impl_isPlace.f a0 20 = some true := by
    unfold impl_isPlace.f impl_inRange.f
    rw [if_pos h0]
    have : decide (a0 ≤ wrap64 (20 - 1)) = true := by rw [decide_eq_true_eq]; unfold wrap64; omega
    rw [this]; rfl
  obtain ⟨ad, e, hx0⟩ := Kd.at_string hT.out a0 h0 (by have : words.length = 20 := rfl; omega)
  cases e
  have hx : w.cell? ⟨0, a0.toNat, none⟩ = some (.string (rdOf ByteArray.empty words a0)) := by
    have he : (⟨0, 0, none⟩ : Addr).add a0.toNat = ⟨0, a0.toNat, none⟩ := by
      unfold Addr.add
      split
      · rename_i hz; rw [hz]
      · simp
    rw [← he]; exact hx0
  clear hx0
  replace h0 := eq_true h0
  have h1' : a0 < (20 : Nat) := by omega
  replace h1 := eq_true h1
  replace h1' := eq_true h1'
  go_enter Tryd.func6, Tryd.ntmps6
  go_wp2_with (first | (go_at_call 9; refine (impl_isPlace.calls a0 20 true _ hp).mono ?_; rintro e w' ⟨rfl, ⟨nd, rfl⟩⟩))
  go_ret
  exact ⟨by first | rfl | (simp; done) | (simp [*]; done), by repeat (first | exact Drawn0.refl _ | apply Drawn0.step)⟩
theorem word_out (a0 : Int) (w : World) (h : ¬ (0 ≤ a0 ∧ a0 < 20)) :
    Calls Tryd.prog 6 #[.int .i64 a0] w fun e w' => e = .returned (.string ⟨#[]⟩) ∧ Drawn0 w w' := by
  have hp : impl_isPlace.f a0 20 = some false := by
    unfold impl_isPlace.f impl_inRange.f
    by_cases h0 : 0 ≤ a0
    · rw [if_pos h0]
      have : decide (a0 ≤ wrap64 (20 - 1)) = false := by rw [decide_eq_false_iff_not]; unfold wrap64; omega
      rw [this]; rfl
    · rw [if_neg h0]; rfl
  go_enter Tryd.func6, Tryd.ntmps6
  go_wp2_with (first | (go_at_call 9; refine (impl_isPlace.calls a0 20 false _ hp).mono ?_; rintro e w' ⟨rfl, ⟨nd, rfl⟩⟩))
  go_ret
  exact ⟨by first | rfl | (simp; done) | (simp [*]; done), by repeat (first | exact Drawn0.refl _ | apply Drawn0.step)⟩
theorem code_of (k : Nat) (a : ByteArray) (r : Int) (w : World) (hT : Table w) (h : slices_Index_string_string.f k words a = some r) :
    Calls Tryd.prog 8 #[.string a] w fun e w' => e = .returned (.int .i64 r) ∧ Drawn0 w w' := by
  go_enter Tryd.func8, Tryd.ntmps8
  go_wp2_with (first | (go_at_call 10; refine (slices_Index_string_string.calls k _ 20 words a r _ hT.out (Nat.le_refl _) h).mono ?_; rintro e w' ⟨rfl, ⟨nd, rfl⟩⟩))
  go_ret
  exact ⟨by first | rfl | (simp; done) | (simp [*]; done), by repeat (first | exact Drawn0.refl _ | apply Drawn0.step)⟩

/-- The reference's words are these. -/
theorem spec_word (a0 : Int) : spec_CodeWord.f a0 = some (if 0 ≤ a0 ∧ a0 < 20 then rdOf ByteArray.empty words a0 else ⟨#[]⟩) := by
  have hl : (words.length : Int) = 20 := rfl
  show (some words).bind _ = _
  simp only [Option.bind_some]
  by_cases h0 : a0 < 0
  · rw [if_pos h0, if_neg (by omega)]
  · rw [if_neg h0, hl]
    by_cases h1 : a0 ≥ 20
    · rw [if_pos h1, if_neg (by omega)]
    · rw [if_neg h1, if_pos (by omega), if_pos (by omega), if_pos (by omega)]
theorem both (a : ByteArray) : ∀ (d : Nat) (i : Int), 0 ≤ i → i + d = 20 → ∃ r, spec_CodeOf.l0 (d + 1) a i = some r ∧ slices_Index_string_string.l0 (d + 1) words a 20 i = some r := by
  have hl : (words.length : Int) = 20 := rfl
  intro d
  induction d with
  | zero =>
    intro i h0 h1
    refine ⟨-1, ?_, ?_⟩
    · simp only [spec_CodeOf.l0]; rw [if_neg (by omega)]
    · simp only [slices_Index_string_string.l0]; rw [if_neg (by omega)]
  | succ d ih =>
    intro i h0 h1
    have hw : wrap64 (i + 1) = i + 1 := by unfold wrap64; omega
    have e1 : spec_CodeOf.l0 (d + 1 + 1) a i = if (rdOf ByteArray.empty words i).toList = a.toList then some i else spec_CodeOf.l0 (d + 1) a (i + 1) := by
      rw [spec_CodeOf.l0, if_pos (by omega), spec_word, if_pos (by omega), hw]; rfl
    have e2 : slices_Index_string_string.l0 (d + 1 + 1) words a 20 i = if a.toList = (rdOf ByteArray.empty words i).toList then some i else slices_Index_string_string.l0 (d + 1) words a 20 (i + 1) := by
      rw [slices_Index_string_string.l0, if_pos (by omega), if_pos (by omega), if_pos (by omega), hw]
    rw [e1, e2]
    by_cases hc : (rdOf ByteArray.empty words i).toList = a.toList
    · exact ⟨i, by rw [if_pos hc], by rw [if_pos hc.symm]⟩
    · rw [if_neg hc, if_neg (fun h => hc h.symm)]
      exact ih (i + 1) (by omega) (by omega)
theorem ans_of (a : ByteArray) : ∃ r, spec_CodeOf.f 21 a = some r ∧ slices_Index_string_string.f 21 words a = some r := both a 20 0 (by omega) (by omega)
theorem below_then {w w1 : World} (h : Below w.heap.size w w1) (nd : Nat) : Below w.heap.size w (w1.drewN nd) :=
  h.trans (let k := (⟨⟨nd, rfl⟩⟩ : Drawn0 w1 (w1.drewN nd)).below; ⟨k.os, k.tape, k.output, k.size, fun i hi => k.block i (Nat.lt_of_lt_of_le hi h.size)⟩)
theorem law_word (a0 : Int) (w : World) (hT : Table w) :
    Calls Tryd.prog 3 #[.int .i64 a0] w fun e w' => e = .returned (.bool true) ∧ Below w.heap.size w w' := by
  have hs := spec_word a0
  by_cases h : 0 ≤ a0 ∧ a0 < 20
  · rw [if_pos h] at hs
    go_enter Tryd.func3, Tryd.ntmps3
    go_wp2_with (first | (go_at_call 5; refine (spec_CodeWord.calls a0 _ _ hs).mono ?_; rintro e w1 ⟨rfl, b1⟩; have hT1 := hT.below b1; clear hT) | (go_at_call 6; refine (word_in a0 _ hT1 h.1 h.2).mono ?_; rintro e w' ⟨rfl, ⟨nd, rfl⟩⟩))
    go_ret
    exact ⟨by first | rfl | (simp; done) | (simp [*]; done), below_then b1 _⟩
  · rw [if_neg h] at hs
    go_enter Tryd.func3, Tryd.ntmps3
    go_wp2_with (first | (go_at_call 5; refine (spec_CodeWord.calls a0 _ _ hs).mono ?_; rintro e w1 ⟨rfl, b1⟩) | (go_at_call 6; refine (word_out a0 _ h).mono ?_; rintro e w' ⟨rfl, ⟨nd, rfl⟩⟩))
    go_ret
    exact ⟨by first | rfl | (simp; done) | (simp [*]; done), below_then b1 _⟩
theorem law_of_big (a : ByteArray) (w : World) (hb : (a.size : Int) > 1048576) :
    Calls Tryd.prog 4 #[.string a] w fun e w' => e = .returned (.bool true) ∧ Below w.heap.size w w' := by
  go_enter Tryd.func4, Tryd.ntmps4
  go_wp2
  go_ret
  exact ⟨by first | rfl | (simp; done) | (simp [*]; done), Below.refl _ _⟩
theorem law_of (a : ByteArray) (w : World) (hT : Table w) (hb : ¬ (a.size : Int) > 1048576) :
    Calls Tryd.prog 4 #[.string a] w fun e w' => e = .returned (.bool true) ∧ Below w.heap.size w w' := by
  obtain ⟨r, h1, h2⟩ := ans_of a
  go_enter Tryd.func4, Tryd.ntmps4
  go_wp2_with (first | (go_at_call 7; refine (spec_CodeOf.calls 21 a _ _ h1).mono ?_; rintro e w1 ⟨rfl, b1⟩; have hT1 := hT.below b1; clear hT) | (go_at_call 8; refine (code_of 21 a r _ hT1 h2).mono ?_; rintro e w' ⟨rfl, ⟨nd, rfl⟩⟩))
  go_ret
  exact ⟨by first | rfl | (simp; done) | (simp [*]; done), below_then b1 _⟩
theorem law_of_any (a : ByteArray) (w : World) (hT : Table w) :
    Calls Tryd.prog 4 #[.string a] w fun e w' => e = .returned (.bool true) ∧ Below w.heap.size w w' := by
  by_cases hb : (a.size : Int) > 1048576
  · exact law_of_big a w hb
  · exact law_of a w hT hb
end Go.Proofs.YtkmamnhengeakaaDoor.Q
