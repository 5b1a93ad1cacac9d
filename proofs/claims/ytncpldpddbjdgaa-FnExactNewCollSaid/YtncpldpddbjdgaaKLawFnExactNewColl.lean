/- FnExactNewColl: for every argument the law answers true, and the argument reads behind the call as it read before. No condition. -/
import Derived.Test.YtncpldpddbjdgaaKLawFnExactNewCollp22
import Derived.Test.YtncpldpddbjdgaaKLawFnExactNewCollp12
import Derived.Test.YtncpldpddbjdgaaRows
import Derived.WalkKit
import Derived.ProofKit
import Derived.OpenShut
import Derived.ShutString
import Derived.ChangeOld
import Derived.Below
import Derived.SizedLaws
import Derived.Carry
section
namespace Go.Proofs.Ytncpldpddbjdgaa.Pure
open Go Go.RowKit Go.Proofs.Ytncpldpddbjdgaa.Q Go.Proofs.YtncpldpddbjdgaaW.PrintWords Go.Proofs.YtncpldpddbjdgaaW.PrintLast Go.Proofs.YtncpldpddbjdgaaW.PrintMore Go.Proofs.YtncpldpddbjdgaaW.Pl
theorem wi {i : Nat} (h : i≤9223372036854775806) : wrap64 ((i : Int) + 1)=((i + 1 : Nat) : Int):=w64 (by omega) (by omega)
theorem bt_get (a : ByteArray) (i : Nat) (h : i<(bytesOf a).length) : bt a (i : Int)=(bytesOf a)[i]:=by
 rw [← rd_bytesOf,rd_at _ _ h]
def isL (c : Int) : Bool:=(decide (97≤c) && decide (c≤122)) || (decide (65≤c) && decide (c≤90)) || (c == 95)
def isD (c : Int) : Bool:=decide (48≤c) && decide (c≤57)
theorem specL (c : Int) : spec_l00Letter.f c=some (isL c):=by
 unfold spec_l00Letter.f isL
 split <;> split <;> (try split) <;> (try split) <;> simp <;> omega
theorem implL (c : Int) : impl_isLetter.f c=some (isL c):=by
 unfold impl_isLetter.f isL
 split <;> split <;> (try split) <;> (try split) <;> simp <;> omega
theorem specD (c : Int) : spec_l00Digit.f c=some (isD c):=by
 unfold spec_l00Digit.f isD
 split <;> simp <;> omega
theorem implD (c : Int) : impl_isDigit.f c=some (isD c):=by
 unfold impl_isDigit.f isD
 split <;> simp <;> omega
def wgo (first : Bool) : List Int→Bool
 | [] => true
 | c :: cs => (isL c || (isD c && !first)) && wgo false cs
def word (s : ByteArray) : Bool:=wgo true (bytesOf s) && (decide (1≤(s.size : Int)) && decide ((s.size : Int)≤40))
theorem word_spec (s : ByteArray) (hs : s.size≤1048576) : Eve (fun k => spec_l00Word.f k s) (word s):=by
 have hn : (bytesOf s).length=s.size:=bytesOf_length s;have hj : Eve (fun k => spec_l00Word.j0 k s true) false:=Eve.succ (by simp only [spec_l00Word.j0,if_true];exact Eve.one);simp only [spec_l00Word.f];refine Eve.ite (fun h => hj.eq ?_) (fun h => ?_)
 ·
  have : decide (1≤(s.size : Int))=false:=by simp;omega
  simp [word,this]
 refine Eve.ite (fun h2 => hj.eq ?_) (fun h2 => ?_)
 ·
  have : decide ((s.size : Int)≤40)=false:=by simp;omega
  simp [word,this]
 refine Eve.ite (fun _ => ?_) (fun h => absurd (by omega) h)
 have hw : word s=wgo true (bytesOf s):=by
  have a1 : decide (1≤(s.size : Int))=true:=by simp;omega
  have a2 : decide ((s.size : Int)≤40)=true:=by simp;omega
  simp [word,a1,a2]
 have hb:=bt_get s 0 (by omega);simp only [show ((0 : Nat) : Int)=0 from rfl] at hb;have hc : bytesOf s=bt s 0 :: (bytesOf s).drop 1:=by rw [hb];exact drop_at (bytesOf s) 0 (by omega)
 simp only [specL,Option.bind_some]
 cases hl : isL (bt s 0) with
 | false =>
  refine hj.eq ?_;rw [hw,hc];simp [wgo,hl]
 | true =>
  refine Eve.succ ?_;simp only [spec_l00Word.j0,Bool.not_true,Bool.false_eq_true,if_false]
  have:=ev_loop (bytesOf s) (fun k (_ : Unit) i => spec_l00Word.l0 k s i) (fun _ _ r => wgo false r) (fun i _ => 1≤i) (fun _ _ => by
   simp only [spec_l00Word.l0]
   exact Eve.ite (fun h => absurd h (by omega)) (fun _ => Eve.one)) (fun i hi _ hI ih => by
   have hnx:=ih () (by omega);simp only [spec_l00Word.l0,specL,specD,Option.bind_some,wi (show i≤9223372036854775806 by omega),bt_get s i hi];refine Eve.ite (fun _ => ?_) (fun h => absurd (by omega) h);refine Eve.ite (fun _ => ?_) (fun h => absurd (by omega) h);refine Eve.ite (fun h1 => hnx.eq (by simp [wgo,h1])) (fun h1 => ?_)
   exact Eve.ite (fun h2 => hnx.eq (by simp [wgo,h2])) (fun h2 => Eve.one.eq (by simp [wgo,h1,h2]))) ((bytesOf s).length - 1) 1 () (by omega) (by omega)
  refine this.eq ?_;rw [hw]
  conv => rhs;rw [hc]
  simp [wgo,hl]
theorem word_impl (s : ByteArray) (hs : s.size≤1048576) : Eve (fun k => impl_NameOK.f k s) (word s):=by
 have hn : (bytesOf s).length=s.size:=bytesOf_length s;simp only [impl_NameOK.f];refine ev_loop0 (bytesOf s) (fun k (_ : Unit) i => impl_NameOK.l0 k s (s.size : Int) i) (fun i _ r => wgo (decide (i=0)) r && (decide (1≤(s.size : Int)) && decide ((s.size : Int)≤40))) (fun _ _ => True) (fun _ _ => ?_) (fun i hi _ _ ih => ?_) () trivial
 ·
  simp only [impl_NameOK.l0]
  refine Eve.ite (fun h => absurd h (by omega)) (fun _ => Eve.all fun k => ?_);unfold impl_inRange.f
  by_cases h : 1≤(s.size : Int)
  ·
   rw [if_pos h];simp [wgo,h]
  rw [if_neg h];simp [wgo,h]
 have hnx:=ih () trivial;simp only [Nat.add_one_ne_zero,decide_false] at hnx;simp only [impl_NameOK.l0,implL,implD,Option.bind_some,wi (show i≤9223372036854775806 by omega),bt_get s i hi];refine Eve.ite (fun _ => ?_) (fun h => absurd (by omega) h);refine Eve.ite (fun _ => ?_) (fun h => absurd (by omega) h);refine Eve.ite (fun _ => ?_) (fun h => absurd (by omega) h);refine Eve.ite (fun h1 => hnx.eq (by simp [wgo,h1])) (fun h1 => ?_);refine Eve.ite (fun h2 => ?_) (fun h2 => Eve.one.eq (by simp [wgo,h1,h2]));refine Eve.ite (fun h3 => Eve.one.eq ?_) (fun h3 => hnx.eq ?_)
 ·
  obtain rfl : i=0:=by omega
  simp [wgo,h1]
 have : ¬ i=0:=by omega
 simp [wgo,h2,this]
def nam (s : ByteArray) : Bool:=word s && decide ((s.size : Int)≤12)
theorem nam_spec (s : ByteArray) (hs : s.size≤1048576) : Eve (fun k => spec_l01Name.f k s) (nam s):=by
 simp only [spec_l01Name.f,spec_NameOK.f];refine Eve.bind (v:=word s) (Eve.bind (word_spec s hs) Eve.one) ?_;refine Eve.ite (fun h => Eve.one.eq (by simp [nam,h])) (fun h => Eve.one.eq (by simp [nam,h]))
theorem nam_impl (s : ByteArray) (hs : s.size≤1048576) : Eve (fun k => impl_isShort.f k s) (nam s):=by
 simp only [impl_isShort.f];refine Eve.ite (fun h => (Eve.bind (word_impl s hs) Eve.one).eq (by simp [nam,h])) (fun h => Eve.one.eq (by simp [nam,h]))
abbrev Col:=ByteArray×List S42×List S46×Int
def colA (a : ByteArray) : Col:=if (a.size : Int) > 65536 then (⟨#[]⟩,[],[],2) else if nam a=true then (a,[],[],0) else (⟨#[]⟩,[],[],11)
theorem col_rows (a : ByteArray) : (colA a).2.1=[]∧(colA a).2.2.1=[]:=by
 unfold colA
 split
 ·
  exact ⟨rfl,rfl⟩
 split <;> exact ⟨rfl,rfl⟩
theorem col_spec (a : ByteArray) (hs : a.size≤1048576) : Eve (fun k => spec_NewColl.f k a) (colA a):=by
 simp only [spec_NewColl.f,spec_l08New.f,Option.bind_some];unfold colA;refine Eve.ite (fun h => Eve.one.eq (by rw [if_pos h])) (fun h => ?_);rw [if_neg h];refine Eve.bind (nam_spec a hs) ?_;exact Eve.ite (fun h => Eve.one.eq (by rw [if_pos h])) (fun h => Eve.one.eq (by rw [if_neg h]))
theorem long_tells (a : ByteArray) : Eve (fun k => impl_isLong.f k [a]) (decide ((a.size : Int) > 65536)):=by
 have r0 : rdOf ByteArray.empty [a] 0=a:=rfl;have w1 : wrap64 (0 + 1)=1:=w64 (by omega) (by omega);have l1 : ((([a] : List ByteArray).length : Nat) : Int)=1:=rfl;refine ⟨3,fun k hk => ?_⟩;obtain ⟨k,rfl⟩ : ∃ m,k=m + 2:=⟨k - 2,by omega⟩;simp only [impl_isLong.f,slices_ContainsFunc_string_string_at_isLong_1.f,slices_IndexFunc_string_string_at_isLong_1.f,slices_IndexFunc_string_string_at_isLong_1.l0,l1,r0,w1,impl_isLong_1.f,Option.bind_some]
 by_cases h : (a.size : Int) > 65536
 ·
  simp [h]
 simp [h]
theorem col_impl (a : ByteArray) (hs : a.size≤1048576) : Eve (fun k => impl_NewColl.f k a) (colA a):=by
 simp only [impl_NewColl.f];unfold colA;refine Eve.bind (long_tells a) ?_;simp only [decide_eq_true_eq];refine Eve.ite (fun h => Eve.one.eq (by rw [if_pos h])) (fun h => ?_);rw [if_neg h];refine Eve.bind (nam_impl a hs) ?_;exact Eve.ite (fun h => Eve.one.eq (by rw [if_pos h])) (fun h => Eve.one.eq (by rw [if_neg h]))
theorem eq_col (a : ByteArray) : Eve (fun k => laws_eqColl.f k a [] [] a [] []) true:=by
 have h1 : Eve (fun k => laws_eqChainS.f k [] []) true:=by
  simp only [laws_eqChainS.f,List.length_nil,if_true];refine Eve.succ ?_;simp only [laws_eqChainS.l0,List.length_nil];exact Eve.ite (fun h => absurd h (by omega)) (fun _ => Eve.one)
 have h2 : Eve (fun k => laws_eqDefS.f k [] []) true:=by
  simp only [laws_eqDefS.f,List.length_nil,if_true];refine Eve.succ ?_;simp only [laws_eqDefS.l0,List.length_nil];exact Eve.ite (fun h => absurd h (by omega)) (fun _ => Eve.one)
 simp only [laws_eqColl.f,if_true];refine Eve.bind h1 ?_;simp only [if_true];refine Eve.bind h2 ?_;simp only [if_true];exact Eve.one
theorem mark_col (a : ByteArray) : Eve (fun k => laws_markColl.f k a [] [] 1) 1:=by
 simp only [laws_markColl.f,laws_markChainS.f,laws_markDefS.f];refine Eve.bind (v:=1) ?_ ?_
 ·
  refine Eve.succ ?_
  simp only [laws_markChainS.l0,List.length_nil];exact Eve.ite (fun h => absurd h (by omega)) (fun _ => Eve.one)
 refine Eve.bind (v:=1) ?_ Eve.one;refine Eve.succ ?_;simp only [laws_markDefS.l0,List.length_nil];exact Eve.ite (fun h => absurd h (by omega)) (fun _ => Eve.one)
theorem held_col (a : ByteArray) : Eve (fun k => laws_heldColl.f k a [] [] 1) 1:=by
 simp only [laws_heldColl.f,laws_heldChainS.f,laws_heldDefS.f];refine Eve.bind (v:=1) ?_ ?_
 ·
  refine Eve.succ ?_
  simp only [laws_heldChainS.l0,List.length_nil];exact Eve.ite (fun h => absurd h (by omega)) (fun _ => Eve.one)
 refine Eve.ite (fun h => absurd h (by omega)) (fun _ => ?_);refine Eve.bind (v:=1) ?_ ?_
 ·
  refine Eve.succ ?_
  simp only [laws_heldDefS.l0,List.length_nil];exact Eve.ite (fun h => absurd h (by omega)) (fun _ => Eve.one)
 exact Eve.ite (fun h => absurd h (by omega)) (fun _ => Eve.one)
theorem FnExactNewColl : laws_FnExactNewColl.Pure:=by
 intro a _;refine Eve.get (g:=fun k => laws_FnExactNewColl.f k a) ?_;simp only [laws_FnExactNewColl.f];refine Eve.ite (fun _ => Eve.one) (fun h => ?_);have hs : a.size≤1048576:=by omega
 have h1:=col_spec a hs;have h2:=col_impl a hs;obtain ⟨e1,e2⟩:=col_rows a;generalize colA a=c at h1 h2 e1 e2;obtain ⟨n,x,y,z⟩:=c;simp only at e1 e2;subst e1;subst e2;refine Eve.bind h1 ?_;refine Eve.bind h2 ?_;refine Eve.bind (eq_col n) ?_;simp only [if_true,bne_self_eq_false];refine Eve.succ ?_;simp only [laws_FnExactNewColl.j0,Bool.false_eq_true,if_false];refine Eve.bind (mark_col n) ?_;refine Eve.bind (held_col n) ?_;refine Eve.ite (fun h => absurd h (by omega)) (fun _ => ?_);simp only [if_true];refine Eve.bind h2 ?_;refine Eve.bind (eq_col n) ?_;simp only [if_true,bne_self_eq_false];refine Eve.succ ?_;simp only [laws_FnExactNewColl.j1,Bool.false_eq_true,if_false];refine Eve.bind (held_col n) ?_;refine Eve.ite (fun h => absurd h (by omega)) (fun _ => ?_);simp only [if_true];exact Eve.one
end Go.Proofs.Ytncpldpddbjdgaa.Pure
end
section
namespace Go.Proofs.Ytncpldpddbjdgaa.fnExactNewColl
open Go.ChangeShapes Go.WideShapes Go.ChangeAt Go.RowKit Go.Proofs.YtncpldpddbjdgaaW.PrintWords Go.Proofs.YtncpldpddbjdgaaW.PrintOpen Go.Proofs.Ytncpldpddbjdgaa.Q
open Go.ChangeMaps (open_string shut_string)
set_option linter.unusedVariables false
theorem own : ownKnob Try.prog.godebug=none:=by kernel_rfl
theorem laidOut : laidOutB Try.prog=true:=by kernel_rfl
set_option maxRecDepth 100000 in
theorem lifted (os : Os) (started : os.Started) (H : Type) (enc : TypeId×Value→H) :
  ReturnsInHanded {} Try.checked os 3 .any (Rows.fnExactNewCollSpec.pre6 enc Try.prog Try.f3 Rows.fnExactNewCollRow.domain false) (Rows.fnExactNewCollSpec.post enc Try.prog Try.f3 false true false false):=by
 refine returnsInHanded_of_change_sized (C:=Try.checked) own started (by kernel_rfl) Try.func3
  (ChangeSpec.witness6 (enc:=enc) (C:=Try.checked) false ⟨#[],#[.string ByteArray.empty],[]⟩ 8 (by kernel_rfl) (by kernel_rfl) (by kernel_rfl) (by kernel_rfl)) ?_
 intro W base args ds gs before hval0 hW hcnd hsz0 _
 have hval : ∀ (j : Nat) t v,Try.f3.params[j]? = some t→args[j]? = some v→Value.okWide Try.prog W .any base t v:=hval0
 have hW':=hW
 obtain ⟨p,q,hA0,hV,rfl,hfz,hnd⟩:=hW
 have hA : DataW.TrodAll enc Try.prog W 0 (fun _ => true) true Try.f3.params.toList args.toList ds p:=hA0
 rw [Try.params3] at hA hval
 obtain ⟨v0,vs0,d0,ds0,p0,q0,hargs,rfl,rfl,h0,r0⟩:=trodAll_cons hA
 obtain ⟨rfl,rfl,rfl⟩:=trodAll_nil r0
 obtain rfl : args = #[v0]:=by cases args;simp_all
 obtain ⟨rfl,rfl⟩:=trodVars_none hV
 obtain ⟨x0,rfl,rfl,rfl,y0⟩:=open_string Try.underlying9 (hval 0 9 v0 rfl rfl) h0
 have g0 : x0.size≤9223372036854775807:=by have:=y0;unfold maxLen at this;exact this
 clear hA0 hval0 hsz0
 obtain ⟨k,hp⟩:=Pure.FnExactNewColl x0 g0
 refine (laws_FnExactNewColl.calls k x0 true W  hp).mono fun e W' ⟨he,bel0⟩ => ?_
 have bel : Below W.heap.size W W':=bel0
 subst he
 exact ⟨_,rfl,_,_,_,[],_,[],hW',trodAll_mk1 (shut_bool Try.underlying4 _),(trodAll_cons_mk (shut_string Try.underlying9 y0) trodAll_mk0),rfl,bel.frame _,fun h => by cases h⟩
theorem over : Rows.fnExactNewCollRow.holds Try.pinned (OpenSpec.ofChange Rows.fnExactNewCollSpec) :=
 OpenClaim.holds_of_wide 3 Try.f3 rfl rfl rfl rfl rfl rfl rfl ⟨rfl,rfl,rfl,rfl,rfl⟩ rfl rfl rfl rfl rfl (by kernel_rfl) Try.func3 (by kernel_rfl)
  (of_decide_eq_true (by kernel_rfl)) (by unfold Func.isWrapper;first|(rw [if_pos (by decide +kernel)];kernel_rfl)|(rw [if_neg (by decide +kernel)];exact ⟨rfl,rfl⟩))
  (fun os started H enc _ => lifted os started H enc)
theorem proved : Rows.FnExactNewCollSaid:=over
#print axioms proved
end Go.Proofs.Ytncpldpddbjdgaa.fnExactNewColl
namespace Go.Proofs.Ytncpldpddbjdgaa
theorem fnExactNewColl_holds : Rows.FnExactNewCollSaid:=fnExactNewColl.proved
end Go.Proofs.Ytncpldpddbjdgaa
end
