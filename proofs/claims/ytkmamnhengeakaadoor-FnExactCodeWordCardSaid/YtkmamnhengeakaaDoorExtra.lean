/- Words of our own beside the print's: the greater and the lesser of two texts. -/
import Derived.Test.YtkmamnhengeakaaDoorWMore
import Derived.Test.YtkmamnhengeakaaDoorWShare
import Derived.Test.YtkmamnhengeakaaDoorWN
import Derived.WalkKit
import Derived.Tactics
import Derived.Lib.ConvBytes
namespace Go.Proofs.YtkmamnhengeakaaDoorW.PrintMore
open Go Go.RowKit
/-- The greater of two texts, as Go's max tells it. -/
def mxs (x y : ByteArray) : ByteArray := if Op.bytesLess x.toList y.toList then y else x
/-- The lesser of two texts, as Go's min tells it. -/
def mns (x y : ByteArray) : ByteArray := if (Op.bytesLess x.toList y.toList || x.toList == y.toList) then x else y
theorem max2_str (x y : ByteArray) : Builtin.max2 (.string x) (.string y) = pure (.string (mxs x y)) := by
  simp only [Builtin.max2, Op.stringOp, mxs]
  cases h : Op.bytesLess x.toList y.toList <;> simp [asBool]
theorem min2_str (x y : ByteArray) : Builtin.min2 (.string x) (.string y) = pure (.string (mns x y)) := by
  simp only [Builtin.min2, Op.stringOp, mns]
  cases h : (Op.bytesLess x.toList y.toList || x.toList == y.toList) <;> simp [asBool]
theorem bytesLess_total : ∀ x y : List UInt8, (!(Op.bytesLess x y || x == y)) = Op.bytesLess y x
  | [], [] => rfl
  | [], _ :: _ => rfl
  | _ :: _, [] => rfl
  | a :: x, b :: y => by
    have ih := bytesLess_total x y
    simp only [Op.bytesLess]
    by_cases h : a = b
    · subst h
      have h1 : (a < a) = False := eq_false (UInt8.lt_irrefl a)
      simp only [h1, decide_false, Bool.false_or, beq_self_eq_true, Bool.true_and]
      rw [← ih]
      by_cases h2 : x = y <;> simp [h2]
    · have h1 : (a == b) = false := by simpa using h
      have h2 : (b == a) = false := by simpa using fun e => h e.symm
      have h3 : (a :: x == b :: y) = false := by simp [h]
      simp only [h1, h2, h3, Bool.false_and, Bool.or_false]
      have h4 : a.toNat ≠ b.toNat := fun e => h (UInt8.toNat_inj.mp e)
      by_cases h5 : a < b
      · have : ¬ b < a := by rw [UInt8.lt_iff_toNat_lt] at *; omega
        simp [h5, this]
      · have : b < a := by rw [UInt8.lt_iff_toNat_lt] at *; omega
        simp [h5, this]
theorem str_geq (t : TypeId) (a b : ByteArray) : binOp .geq t (.string a) (.string b) = pure (.bool !(Op.bytesLess a.toList b.toList)) := by simp [binOp, Op.stringOp]
theorem str_gtr (t : TypeId) (a b : ByteArray) : binOp .gtr t (.string a) (.string b) = pure (.bool (Op.bytesLess b.toList a.toList)) := by
  rw [← bytesLess_total]
  simp [binOp, Op.stringOp]
theorem str_leq (t : TypeId) (a b : ByteArray) : binOp .leq t (.string a) (.string b) = pure (.bool !(Op.bytesLess b.toList a.toList)) := by
  rw [← bytesLess_total]
  simp [binOp, Op.stringOp]
open Go.Proofs.YtkmamnhengeakaaDoorW.PrintWords Go.Proofs.YtkmamnhengeakaaDoorW.PrintLast
/-- The row that a conversion of a text to bytes makes: it is only read. -/
theorem conv_V {base : Nat} (W : World) (e : TypeId) (s : ByteArray) (hs : s.size ≤ 9223372036854775807) :
    Kd.V (Kd.int .u8) e (Lib.bytesWorld W e s) base (fun k => W.heap.size ≤ k) (.slice (some ⟨W.heap.size, 0, none⟩) s.size (grownCap W s.size 0 e)) (bytesOf s) := by
  have hl : (bytesOf s).length = s.size := bytesOf_length s
  refine ⟨some ⟨W.heap.size, 0, none⟩, grownCap W s.size 0 e, by rw [hl], by rw [hl]; exact grownCap_ge W s.size 0 e, fun W2 h2 => ?_⟩
  have hr := bytes_reads W e s hs
  have hat : W2.heap[W.heap.size]? = (Lib.bytesWorld W e s).heap[W.heap.size]? := h2 _ (Nat.le_refl _) (by rw [Lib.bytesWorld_size]; omega)
  refine ⟨rfl, by rw [hl]; exact hs, fun hn => ⟨_, rfl, fun j p hj => ⟨[.int .u8 p], rfl, rfl, fun i u hu => ?_⟩⟩⟩
  obtain ⟨hjl, hp⟩ := List.getElem?_eq_some_iff.1 hj
  have hi : i = 0 := by
    have := (List.getElem?_eq_some_iff.1 hu).1
    simp at this
    exact this
  subst hi
  obtain rfl : Value.int .u8 p = u := by simpa using hu
  obtain ⟨ad, hade, hcell⟩ := hr.2.2 (by omega)
  obtain rfl := Option.some.inj hade
  have h3 := hcell j (by omega)
  have h4 : (bytesOf s).getD j 0 = p := by rw [List.getD_eq_getElem?_getD, hj]; rfl
  rw [h4, add_plain] at h3
  show W2.cell? (Addr.add ⟨W.heap.size, 0, none⟩ (j * 1 + 0)) = _
  rw [add_plain, Nat.mul_one, Nat.add_zero]
  unfold World.cell? at h3 ⊢
  rw [hat]
  exact h3
section
variable {P : Program} {ops : Array Oper} {o : Oper} {rest : List Oper} {a : Act} {Q : Exit → Act → World → Prop}
theorem conv_event {W : World} {base : Nat} (hgd : o.guard = none) {N : Tmp} (_hd : o.dst = some N) (src dst e : TypeId) {x : Operand} (s : ByteArray) (ho : o.op = .convert src dst x) (hx : a.eval x = .string s)
    {u : TypeDesc} (hs : P.underlying src = some u) (hdst : P.underlying dst = some (.slice e)) (he : P.underlying e = some (.int .u8)) (hsz : s.size ≤ 9223372036854775807)
    (h : ∀ v w1, Kd.V (Kd.int .u8) e w1 base (fun k => W.heap.size ≤ k) v (bytesOf s) → Below W.heap.size W w1 → wpList P ops Q rest (a.put o.dst v) w1) : wpList P ops Q (o :: rest) a W := by
  refine Kd.event_run hgd ?_ (h _ _ (conv_V W e s hsz) (bytes_below (Below.refl _ _) (Nat.le_refl _) e s))
  unfold execOp
  rw [ho]
  simp [hx, print_bytes src dst e hs hdst he s W]
end
end Go.Proofs.YtkmamnhengeakaaDoorW.PrintMore
