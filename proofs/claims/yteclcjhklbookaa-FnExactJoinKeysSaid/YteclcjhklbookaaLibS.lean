/- The laws' helpers over rows of texts: what they measure, copy and compare. -/
import Derived.Test.YteclcjhklbookaaPl
import Derived.Test.YteclcjhklbookaaQ3
import Derived.Test.YteclcjhklbookaaQ4
namespace Go.Proofs.Yteclcjhklbookaa.Pure
open Go.RowKit Go.Proofs.Yteclcjhklbookaa.Q Go.Proofs.YteclcjhklbookaaW.PrintWords Go.Proofs.YteclcjhklbookaaW.PrintLast Go.Proofs.YteclcjhklbookaaW.Pl
theorem szStringS_tells (l : List ByteArray) (hl : l.length ≤ 9223372036854775807) (hs : ∀ x ∈ l, x.size ≤ 9223372036854775807) {left : Int} (h0 : 0 ≤ left) (h1 : left ≤ 1048576) {k : Nat} (hk : l.length < k) :
    laws_szStringS.f k l left = some (if left - l.length < 0 then -1 else less ByteArray.size l (left - l.length)) := by
  unfold laws_szStringS.f
  rw [w64 (by omega) (by omega)]
  by_cases h : left - l.length < 0
  · rw [if_pos h, if_pos h]
  · rw [if_neg h, if_neg h]
    have := less_loop (fun k l' i => laws_szStringS.l0 k l l' i) l ByteArray.size (fun k i l' hi a b => by
      have hsz := hs l[i] (List.getElem_mem hi)
      simp only [laws_szStringS.l0]
      rw [if_pos (by omega), if_pos (by omega), rdOf_at _ _ _ hi, w64 (by omega) (by omega), w64 (i := (i : Int) + 1) (by omega) (by omega)]
      by_cases h2 : l' - (l[i].size : Int) < 0
      · rw [if_pos h2, if_pos h2]
      · rw [if_neg h2, if_neg h2]; rfl) (fun k l' => by simp only [laws_szStringS.l0]; rw [if_neg (by omega)]) l.length k 0 (left - l.length) (by omega) hk (by omega) (by omega)
    simpa using this
theorem toStringS_tells (l : List ByteArray) (hl : l.length ≤ 1048576) {k : Nat} (hk : l.length < k) : laws_toStringS.f k l = some l := by
  unfold laws_toStringS.f
  rw [if_pos (by omega), if_pos (by omega)]
  have := map_loop0 (fun k ys i => laws_toStringS.l0 k l ys i) l id (fun k ys i hi hy => by
    simp only [laws_toStringS.l0]
    rw [if_pos (by omega), if_pos (by omega), if_pos (by omega), rdOf_at _ _ _ hi, w64 (by omega) (by omega)]
    rfl) (fun k ys hy => by simp only [laws_toStringS.l0]; rw [if_neg (by omega)]) hk (⟨#[]⟩ : ByteArray)
  simpa using this
theorem eqStringS_self (l : List ByteArray) (hl : l.length ≤ 1048576) {k : Nat} (hk : l.length < k) : laws_eqStringS.f k l l = some true := by
  unfold laws_eqStringS.f
  rw [if_pos rfl]
  have := all2_loop (fun k i => laws_eqStringS.l0 k l l i) l l rfl (fun a b => decide (a = b)) (fun k i hi => by
    simp only [laws_eqStringS.l0]
    rw [if_pos (by omega), if_pos (by omega), if_pos (by omega), if_pos trivial, w64 (by omega) (by omega), if_pos (by simp)]
    rfl) (fun k => by simp only [laws_eqStringS.l0]; rw [if_neg (by omega)]) l.length k 0 (by omega) hk
  rw [show ((0 : Nat) : Int) = 0 from rfl, List.drop_zero, all2_refl _ (by simp)] at this
  exact this
end Go.Proofs.Yteclcjhklbookaa.Pure
