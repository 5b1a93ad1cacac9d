/- NameOK answers as the reference does, for every text. -/
import Derived.Test.YteclcjhklbookaaQStmtFnExactNameOK
namespace Go.Proofs.Yteclcjhklbookaa.Pure
open Go.RowKit Go.Proofs.Yteclcjhklbookaa.Q Go.Proofs.YteclcjhklbookaaW.PrintWords Go.Proofs.YteclcjhklbookaaW.PrintLast
/-- a letter, and a digit, as the two sides tell them -/
def isL (c : Int) : Bool := (decide (97 ≤ c) && decide (c ≤ 122)) || (decide (65 ≤ c) && decide (c ≤ 90)) || (c == 95)
def isD (c : Int) : Bool := decide (48 ≤ c) && decide (c ≤ 57)
theorem specL (c : Int) : spec_l00Letter.f c = some (isL c) := by
  unfold spec_l00Letter.f isL
  split <;> split <;> (try split) <;> (try split) <;> simp <;> omega
theorem implL (c : Int) : impl_isLetter.f c = some (isL c) := by
  unfold impl_isLetter.f isL
  split <;> split <;> (try split) <;> (try split) <;> simp <;> omega
theorem specD (c : Int) : spec_l00Digit.f c = some (isD c) := by
  unfold spec_l00Digit.f isD
  split <;> simp <;> omega
theorem implD (c : Int) : impl_isDigit.f c = some (isD c) := by
  unfold impl_isDigit.f isD
  split <;> simp <;> omega
/-- from place i on, d bytes: each a letter, or a digit that is not the first -/
def good (s : ByteArray) : Nat → Int → Bool
  | 0, _ => true
  | d + 1, i => (isL (bt s i) || (isD (bt s i) && decide (i ≠ 0))) && good s d (i + 1)
theorem wrap_in {i : Int} (h0 : 0 ≤ i) (h : i ≤ 1048576) : wrap64 (i + 1) = i + 1 := by unfold wrap64; omega
theorem spec_loop (s : ByteArray) (hn : s.size ≤ 1048576) : ∀ (d k : Nat) (i : Int), 1 ≤ i → i + d = s.size → d < k → spec_l00Word.l0 k s i = some (good s d i) := by
  intro d
  induction d with
  | zero =>
    intro k i h1 hd hk
    obtain ⟨k, rfl⟩ : ∃ m, k = m + 1 := ⟨k - 1, by omega⟩
    simp only [spec_l00Word.l0]; rw [if_neg (by omega)]; rfl
  | succ d ih =>
    intro k i h1 hd hk
    obtain ⟨k, rfl⟩ : ∃ m, k = m + 1 := ⟨k - 1, by omega⟩
    simp only [spec_l00Word.l0]; rw [if_pos (by omega), if_pos (by omega), specL, specD]
    simp only [Option.bind_some]
    rw [wrap_in (by omega) (by omega), ih k (i + 1) (by omega) (by omega) (by omega)]
    have h0 : decide (i ≠ 0) = true := by simp; omega
    simp only [good, h0]
    cases isL (bt s i) <;> cases isD (bt s i) <;> simp
theorem impl_loop (s : ByteArray) (hn : s.size ≤ 1048576) : ∀ (d k : Nat) (i : Int), 0 ≤ i → i + d = s.size → d < k → impl_NameOK.l0 k s (s.size : Int) i = some (good s d i && (decide (1 ≤ (s.size : Int)) && decide ((s.size : Int) ≤ 40))) := by
  intro d
  induction d with
  | zero =>
    intro k i h1 hd hk
    obtain ⟨k, rfl⟩ : ∃ m, k = m + 1 := ⟨k - 1, by omega⟩
    simp only [impl_NameOK.l0]; rw [if_neg (by omega)]
    unfold impl_inRange.f good
    split <;> simp <;> omega
  | succ d ih =>
    intro k i h1 hd hk
    obtain ⟨k, rfl⟩ : ∃ m, k = m + 1 := ⟨k - 1, by omega⟩
    simp only [impl_NameOK.l0]; rw [if_pos (by omega), if_pos (by omega), if_pos (by omega), implL, implD]
    simp only [Option.bind_some]
    rw [wrap_in (by omega) (by omega), ih k (i + 1) (by omega) (by omega) (by omega)]
    simp only [good]
    by_cases h0 : i = 0
    · subst h0; cases isL (bt s 0) <;> cases isD (bt s 0) <;> simp
    · cases isL (bt s i) <;> cases isD (bt s i) <;> simp [h0]

theorem FnExactNameOK : laws_FnExactNameOK.Pure := by
  intro s _
  by_cases hbig : (s.size : Int) > 1048576
  · exact ⟨0, by unfold laws_FnExactNameOK.f; rw [if_pos hbig]⟩
  have hn : s.size ≤ 1048576 := by omega
  have himpl : impl_NameOK.f (s.size + 2) s = some (good s s.size 0 && (decide (1 ≤ (s.size : Int)) && decide ((s.size : Int) ≤ 40))) := by
    unfold impl_NameOK.f; exact impl_loop s hn s.size _ 0 (by omega) (by omega) (by omega)
  have hspec : spec_l00Word.f (s.size + 2) s = some (good s s.size 0 && (decide (1 ≤ (s.size : Int)) && decide ((s.size : Int) ≤ 40))) := by
    unfold spec_l00Word.f
    by_cases h1 : (s.size : Int) < 1
    · rw [if_pos h1]; simp only [spec_l00Word.j0]
      have : decide (1 ≤ (s.size : Int)) = false := by simp; omega
      simp [this]
    · rw [if_neg h1]
      by_cases h40 : (s.size : Int) > 40
      · rw [if_pos h40]; simp only [spec_l00Word.j0]
        have : decide ((s.size : Int) ≤ 40) = false := by simp; omega
        simp [this]
      · rw [if_neg h40, if_pos (by omega), specL]
        have a1 : decide (1 ≤ (s.size : Int)) = true := by simp; omega
        have a2 : decide ((s.size : Int) ≤ 40) = true := by simp; omega
        simp only [Option.bind_some, a1, a2, Bool.and_true]
        simp only [spec_l00Word.j0]
        obtain ⟨d, hd⟩ : ∃ d, s.size = d + 1 := ⟨s.size - 1, by omega⟩
        rw [spec_loop s hn d _ 1 (by omega) (by omega) (by omega), hd]
        simp only [good]
        have : decide ((0 : Int) ≠ 0) = false := by simp
        simp only [this, Bool.and_false, Bool.or_false, Int.zero_add]
        cases isL (bt s 0) <;> simp
  refine ⟨s.size + 2, ?_⟩
  unfold laws_FnExactNameOK.f spec_NameOK.f
  rw [if_neg hbig, hspec, himpl]
  simp
end Go.Proofs.Yteclcjhklbookaa.Pure
