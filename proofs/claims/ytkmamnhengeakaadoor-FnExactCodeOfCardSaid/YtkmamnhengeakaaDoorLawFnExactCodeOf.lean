/- FnExactCodeOf: whatever the argument is, the law answers true, and its argument reads behind the call as it read before; the table of words reads as it did. The listed variable is tied to the program's text by the card. -/
import Derived.Test.YtkmamnhengeakaaDoorRows
import Derived.Test.YtkmamnhengeakaaDoorTie
import Derived.Test.YtkmamnhengeakaaDoorCards
import Derived.Test.YtkmamnhengeakaaDoorCodes
import Derived.WalkKit
import Derived.ProofKit
import Derived.OpenShut
import Derived.OpenVars
import Derived.ShutString
import Derived.ChangeOld
import Derived.Below
import Derived.SizedLaws
import Derived.Carry
import Derived.LaidMore
import Derived.Stop.Joined
import Derived.SevenTiedAt
namespace Go.Proofs.YtkmamnhengeakaaDoor.fnExactCodeOf
open Go.ChangeShapes Go.WideShapes Go.ChangeAt Go.RowKit Go.Proofs.YtkmamnhengeakaaDoor.Q Go.Proofs.YtkmamnhengeakaaDoorW.PrintWords
open Go.ChangeMaps (open_string shut_string)
set_option linter.unusedVariables false
abbrev laid1 {H : Type} : List (String × DataW H) := [("loop.example/g00380/impl.codeWords", Rows.laid_loop_example_g00380_impl_codeWords)]
theorem own : ownKnob Tryd.prog.godebug = none := by kernel_rfl
theorem laidOut : laidOutB Tryd.prog = true := by kernel_rfl
theorem gWords : Tryd.prog.globalNamed "loop.example/g00380/impl.codeWords" = some 0 := by kernel_rfl
theorem tWords : (Tryd.prog.globals[0]?).map (·.type) = some 28 := by kernel_rfl
theorem cells9' : Tryd.prog.cellsOf 9 = 1 := by kernel_rfl
/-- The door's own heap meets the condition. -/
theorem door_met (os : Os) (args : Array Value) : laidMetH Tryd.prog laid1 ((World.doorLaid Tryd.prog 14 os).forCall (fun _ _ => 0) ⟨#[], args, []⟩).memory :=
  laidMetH_of_parts3 (fuel := 8) (laidMet_of_run' 8 (by kernel_rfl) (by kernel_rfl)) (by kernel_rfl) (by kernel_rfl)
/-- What the condition gives the walks: the table. -/
theorem table_of {W : World} (h : laidMetH Tryd.prog laid1 W) : Table W := by
  rw [MakeChecks.laidMetH_plain _ _ _ (by kernel_rfl)] at h
  obtain ⟨ps, ⟨g0, t0, cs0, f0, p0, q0, hg0, ht0, hv0, hd0, _, _⟩, _, _⟩ := h
  obtain rfl := Option.some.inj (gWords.symm.trans hg0)
  obtain rfl := Option.some.inj (tWords.symm.trans ht0)
  obtain ⟨xs, m1, rfl, hx1, hlen, hn3, hel⟩ := DataW.trod_array Tryd.underlying28 hd0
  have hx2 : words.map (fun s => DataW.lit (H := Unit) (.string s.data.toList)) = xs.map (·.1) := by
    have h9 : DataW.agg (words.map (fun s => DataW.lit (H := Unit) (.string s.data.toList))) = DataW.agg (xs.map (·.1)) := congrArg Prod.fst hx1
    injection h9
  refine ⟨⟨rfl, by decide, fun _ => ⟨_, rfl, fun j s hj => ?_⟩⟩⟩
  have hjl : j < 20 := (List.getElem?_eq_some_iff.1 hj).1
  have h1 := hel j hjl
  obtain ⟨x, hx⟩ : ∃ x, xs[j]? = some x := ⟨xs[j]'(by omega), List.getElem?_eq_getElem _⟩
  rw [hx, cells9'] at h1
  obtain ⟨u, e1, e2, _⟩ := DataW.trod_string Tryd.underlying9 h1
  have h3 := congrArg (·[j]?) hx2
  simp only [List.getElem?_map, hj, hx, Option.map_some, e2] at h3
  have h4 : s = u := by
    simp only [Option.some.injEq, DataW.lit.injEq, Lit.string.injEq] at h3
    obtain ⟨⟨a⟩⟩ := s
    obtain ⟨⟨b⟩⟩ := u
    simp at h3
    rw [h3]
  subst h4
  refine ⟨[.string s], rfl, rfl, fun i v hv => ?_⟩
  obtain rfl : i = 0 := by
    have := (List.getElem?_eq_some_iff.1 hv).1
    simp at this
    exact this
  simp only [List.getElem?_cons_zero, Option.some.injEq] at hv
  subst hv
  have he : (⟨0, 0, none⟩ : Addr).add (j * Kd.string.sz + 0) = ⟨0, j, none⟩ := by
    show (⟨0, 0, none⟩ : Addr).add (j * 1 + 0) = ⟨0, j, none⟩
    unfold Addr.add
    split
    · rename_i hz
      have : j = 0 := by omega
      rw [this]
    · simp
  rw [he, World.var?_cell hg0 hv0 j]
  obtain ⟨l⟩ := cs0
  rw [Nat.mul_one] at e1
  have := congrArg (·[0]?) e1
  simp only [List.getElem?_take, List.getElem?_drop, List.getElem?_cons_zero] at this
  simpa using this
set_option maxRecDepth 100000 in
theorem lifted (os : Os) (started : os.Started) (H : Type) (enc : TypeId × Value → H) :
    ReturnsInHanded {} Tryd.checked os 4 .any (fun w args => (Rows.fnExactCodeOfSpec.pre enc Tryd.prog Tryd.f4 [] false w args ∧ laidMetH Tryd.prog laid1 w) ∧ sizedMet enc Tryd.prog Tryd.f4 (OpenSpec.ofChange Rows.fnExactCodeOfSpec) false w args)
      (Rows.fnExactCodeOfSpec.post enc Tryd.prog Tryd.f4 false true false false) := by
  refine returnsInHanded_of_change_and (C := Tryd.checked) (X := fun w _ => laidMetH Tryd.prog laid1 w) (fun _ _ _ hh h => h.of_heap hh) own started (by kernel_rfl) Tryd.func4
    (ChangeSpec.witness_shaped (enc := enc) (C := Tryd.checked) (os := os) (X := fun w _ => laidMetH Tryd.prog laid1 w) false (World.doorLaid Tryd.prog 14 os) #[.string ByteArray.empty] 8 rfl (World.shaped_of_RefB (by kernel_rfl) (by kernel_rfl)) (by kernel_rfl) (by kernel_rfl) (by kernel_rfl) (door_met os _)) ?_
  intro W base args ds gs before hval0 hW _ _ hL _
  have hval : ∀ (j : Nat) t v, Tryd.f4.params[j]? = some t → args[j]? = some v → Value.okWide Tryd.prog W .any base t v := hval0
  have hW' := hW
  obtain ⟨p, q, hA0, hV, rfl, hfz, hnd⟩ := hW
  have hA : DataW.TrodAll enc Tryd.prog W 0 (fun _ => true) true Tryd.f4.params.toList args.toList ds p := hA0
  rw [Tryd.params4] at hA hval
  obtain ⟨v0, d0, rfl, rfl, h0⟩ := trodAll_one hA
  obtain ⟨x0, rfl, rfl, rfl, y0⟩ := open_string Tryd.underlying9 (hval 0 9 v0 rfl rfl) h0
  have hT := table_of hL
  have hV2 : DataW.TrodVars enc Tryd.prog W (fun _ => true) ["loop.example/g00380/impl.codeWords"] gs q := hV
  obtain ⟨g1, rfl⟩ : ∃ g1, gs = [g1] := by
    obtain ⟨_, _, _, _, d, _, rfl, _⟩ := trodVars_one hV2
    exact ⟨d, rfl⟩
  clear hA0 hval0
  refine (law_of_any x0 W hT).mono fun e W' ⟨he, bel⟩ => ?_
  subst he
  exact ⟨_, rfl, _, _, _, [], _, _, hW', trodAll_mk1 (shut_bool Tryd.underlying4 _), trodAll_mk1 (shut_string Tryd.underlying9 y0), bel.trodVars laidOut (by kernel_rfl) hV2, bel.frame _, fun h => by cases h⟩
theorem row_holds : Rows.FnExactCodeOfSaid :=
  OpenClaim.holds_of_wide 4 Tryd.f4 rfl rfl rfl rfl rfl rfl rfl ⟨rfl, rfl, rfl, rfl, rfl⟩ rfl rfl rfl rfl rfl (by kernel_rfl) Tryd.func4 (by kernel_rfl)
    (of_decide_eq_true (by kernel_rfl)) (by unfold Func.isWrapper; first | (rw [if_pos (by decide +kernel)]; kernel_rfl) | (rw [if_neg (by decide +kernel)]; exact ⟨rfl, rfl⟩))
    (fun os started H enc _ => lifted os started H enc)
theorem card_holds : Rows.FnExactCodeOfCardSaid :=
  Claim7.holds_tied_plain_at .later [] _ true _ false
    row_holds (fun _ h => by cases h) (by kernel_rfl) (fun _ h => by cases h) fnExactCodeOf_row_tie rfl ⟨rfl, rfl⟩ (by kernel_rfl) rfl
    (fun f fn hf hfn => by
      obtain rfl : f = 4 := Option.some.inj ((show Tryd.prog.funcNamed "loop.example/g00380/laws.FnExactCodeOf" = some 4 by kernel_rfl).symm.trans hf) |>.symm
      obtain rfl : fn = Tryd.f4 := (Option.some.inj (Tryd.func4.symm.trans hfn)).symm
      exact ⟨by kernel_rfl, fun j t ht => by
        rw [Tryd.params4] at ht
        have hm : t ∈ [9] := by simpa using Array.mem_of_getElem? ht
        have hall : ([9].all fun u => !Tryd.prog.wantsStandIn u) = true := by kernel_rfl
        exact (show Tryd.prog.wantsStandIn t = false by simpa using List.all_eq_true.1 hall t hm)⟩)
    (by kernel_rfl)
#print axioms card_holds
end Go.Proofs.YtkmamnhengeakaaDoor.fnExactCodeOf
namespace Go.Proofs.YtkmamnhengeakaaDoor
/-- The card, under a short name, for the claim. -/
theorem fnExactCodeOf_holds : Rows.FnExactCodeOfCardSaid := fnExactCodeOf.card_holds
end Go.Proofs.YtkmamnhengeakaaDoor
