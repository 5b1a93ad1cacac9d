/- Texts of this claim, merged by a program of this session. -/
import Derived.Test.YtgifonogfgpjdaaKLawFnTreep27
section
namespace Go.Proofs.Ytgifonogfgpjdaa.Pure
open Go.RowKit Go.Proofs.Ytgifonogfgpjdaa.Q Go.Proofs.YtgifonogfgpjdaaW.PrintWords Go.Proofs.YtgifonogfgpjdaaW.PrintLast Go.Proofs.YtgifonogfgpjdaaW.PrintMore Go.Proofs.YtgifonogfgpjdaaW.Pl
theorem cb_is : ∀ x y : List UInt8,Lib.compareBytes x y=if Op.bytesLess x y=true then -1 else if x=y then 0 else 1
 | [],[]=>by simp [Lib.compareBytes,Op.bytesLess]
 | [],_ :: _=>by simp [Lib.compareBytes,Op.bytesLess]
 | _ :: _,[]=>by simp [Lib.compareBytes,Op.bytesLess]
 | a :: x,b :: y=>by
  simp only [Lib.compareBytes,Op.bytesLess];rw [cb_is x y]
  by_cases h : a<b
  ·
   simp [h]
  by_cases h2 : b<a
  ·
   have h3 : ¬ a=b:=by rintro rfl;exact h h2
   simp [h,h2,h3]
  have h3 : a=b:=by
   apply UInt8.toNat_inj.mp;rw [UInt8.lt_iff_toNat_lt] at h h2
   omega
  subst h3;simp [h]
def el (a b : IEnt) : Bool:=Op.bytesLess a.f0.toList b.f0.toList || (decide (a.f0.toList=b.f0.toList) && decide (a.f1<b.f1))
theorem less_tells (a b : IEnt) : F0d.f a.f0 a.f1 b.f0 b.f1=some (el a b):=by
 unfold F0d.f el
 by_cases h : Op.bytesLess a.f0.toList b.f0.toList=true
 ·
  rw [if_pos h,h];rfl
 rw [if_neg h]
 by_cases h2 : a.f0.toList=b.f0.toList
 ·
  rw [if_pos h2];simp [h2] at *;simp [h]
 rw [if_neg h2];simp [h,h2]
def ce (a b : IEnt) : Int:=if Op.bytesLess a.f0.toList b.f0.toList=true then -1 else if a.f0.toList=b.f0.toList then (if a.f1<b.f1 then -1 else if a.f1 > b.f1 then 1 else 0) else 1
theorem compare_tells (a b : IEnt) : Eve (fun k=>Fm.f k a.f0 a.f1 b.f0 b.f1) (ce a b):=by
 refine ⟨4,fun k hk=>?_⟩;obtain ⟨k,rfl⟩ : ∃ m,k=m+3:=⟨k - 3,by omega⟩;have w1 : wrap64 (0+1)=1:=w64 (by omega) (by omega);have w2 : wrap64 (1+1)=2:=w64 (by omega) (by omega)
 have hor : ∀ p q : Int,Fr.f (k+3) [p,q]=some (if p=0 then q else p):=by
  intro p q;have r0 : rd [p,q] 0=p:=rfl;have r1 : rd [p,q] 1=q:=rfl;simp only [Fr.f,Fr.l0,List.length_cons,List.length_nil,w1,w2,r0,r1]
  by_cases hp : p=0
  ·
   by_cases hq : q=0
   ·
    simp [hp,hq]
   simp [hp,hq]
  simp [hp]
 have hc : F0h.f a.f1 b.f1=some (if a.f1<b.f1 then -1 else if a.f1 > b.f1 then 1 else 0):=by
  simp only [F0h.f,F04.f,Option.bind_some,bne_self_eq_false,Bool.false_eq_true,if_false]
  repeat' split
  all_goals rfl
 unfold Fm.f strings_Compare.f;rw [hc];simp only [Option.bind_some,hor,← ba_toList,cb_is];unfold ce
 by_cases h : Op.bytesLess a.f0.toList b.f0.toList=true
 ·
  simp [h]
 by_cases h2 : a.f0.toList=b.f0.toList
 ·
  simp only [if_neg h,if_pos h2,if_true]
 simp [h,h2]
theorem less_irrefl (x : List UInt8) : Op.bytesLess x x=false:=by
 rw [← bytesLess_total x x];simp
theorem ce_lt (a b : IEnt) : ce a b ≥ 0 ↔ ¬ el a b=true:=by
 unfold ce el
 by_cases h : Op.bytesLess a.f0.toList b.f0.toList=true
 ·
  simp [h]
 by_cases h2 : a.f0.toList=b.f0.toList
 ·
  rw [h2,less_irrefl]
  by_cases h3 : a.f1<b.f1
  ·
   simp [h3]
  by_cases h4 : a.f1 > b.f1
  ·
   simp [h3,h4]
  simp [h3,h4]
 simp [h,h2]
theorem ce_le (a b : IEnt) : ce a b≤0 ↔ ¬ el b a=true:=by
 unfold ce el;have ht:=bytesLess_total a.f0.toList b.f0.toList;rw [← ht]
 by_cases h : Op.bytesLess a.f0.toList b.f0.toList=true
 ·
  have : ¬ b.f0.toList=a.f0.toList:=by intro e;rw [e,less_irrefl] at h;simp at h
  simp [h,this]
 by_cases h2 : a.f0.toList=b.f0.toList
 ·
  rw [h2,less_irrefl]
  by_cases h3 : a.f1<b.f1
  ·
   have : ¬ b.f1<a.f1:=by omega
   simp [h3,this]
  by_cases h4 : a.f1 > b.f1
  ·
   have : b.f1<a.f1:=by omega
   simp [h3,h4]
  have : ¬ b.f1<a.f1:=by omega
  simp [h3,h4]
 simp [h,h2]
def inr (a b c : Int) : Bool:=decide (b≤a) && decide (a≤c)
theorem in_spec (a b c : Int) : F03.f a b c=some (inr a b c):=by
 unfold F03.f inr
 by_cases h : b≤a
 ·
  rw [if_pos h];simp [h]
 rw [if_neg h];simp [h]
theorem in_impl (a b c : Int) : F01.f a b c=some (inr a b c):=in_spec a b c
def eok (e : IEnt) : Bool:=decide ((e.f0.size : Int)≤2000) && inr e.f1 0 9999
theorem eok_spec (e : IEnt) : F07.f e.f0 e.f1=some (eok e):=by
 unfold F07.f eok
 by_cases h : (e.f0.size : Int)≤2000
 ·
  rw [if_pos h,in_spec];simp [h]
 rw [if_neg h];simp [h]
theorem eok_impl (e : IEnt) : F08.f e.f0 e.f1=some (eok e):=eok_spec e
def ens : IEnt→List IEnt→Bool
 | _,[]=>true
 | p,e :: es=>eok e && (el p e && ens e es)
def lastE : IEnt→List IEnt→IEnt
 | p,[]=>p
 | _,e :: es=>lastE e es
theorem ens_append : ∀ (p : IEnt) (xs ys : List IEnt),ens p (xs++ys)=(ens p xs && ens (lastE p xs) ys)
 | p,[],ys=>by simp [ens,lastE]
 | p,e :: xs,ys=>by simp only [List.cons_append,ens,lastE,ens_append e xs ys,Bool.and_assoc]
def noE : IEnt:=⟨(⟨#[]⟩ : ByteArray),-1⟩
theorem noE_less (e : IEnt) (h : eok e=true) : el noE e=true:=by
 unfold eok inr at h;simp only [Bool.and_eq_true,decide_eq_true_eq] at h;have h0 : noE.f0.toList=[]:=by rw [ba_toList];rfl
 have h1 : noE.f1 = -1:=rfl;unfold el;rw [h0,h1]
 cases e.f0.toList with
 | nil=>simp [Op.bytesLess];omega
 | cons a x=>simp [Op.bytesLess]
def pok (T : List IPag) (n : Int) (seen : List Int) (p : IPag) : Bool:=inr p.f0 1 (n - 1) && (!seen.contains p.f0 && (decide ((p.f1.length : Int)≤4) && !(decide ((p.f1.length : Int)=0) && decide ((T.length : Int) > 1))))
def poks (T : List IPag) (n : Int) : List Int→List IPag→Bool
 | _,[]=>true
 | seen,p :: ps=>pok T n seen p && poks T n (seen ++ [p.f0]) ps
def tok (T : List IPag) (n : Int) : Bool:=inr T.length 1 60 && (inr n 2 100000 && (poks T n [] T && ens noE (T.flatMap (·.f1))))
theorem entries_tells (T : List IPag) (n : Int) (hT : T.length≤1048576) (hf : (T.flatMap (·.f1)).length≤1048576) : Eve (fun k=>Fi.f k T n) (T.flatMap (·.f1)):=by
 simp only [Fi.f]
 have:=ev_loop0 T (fun k ys i=>Fi.l0 k ys T (T.length : Int) i) (fun _ ys r=>ys++r.flatMap (·.f1)) (fun i ys=>ys++(T.drop i).flatMap (·.f1)=T.flatMap (·.f1)) (fun ys _=>by
  simp only [Fi.l0]
  exact Eve.ite (fun h=>absurd h (by omega)) (fun _=>Eve.one.eq (by simp))) (fun i hi ys hI ih=>by
  rw [drop_at T i hi,List.flatMap_cons] at hI;simp only [Fi.l0];refine Eve.ite (fun _=>?_) (fun h=>absurd (by omega) h);refine Eve.ite (fun _=>?_) (fun h=>absurd (by omega) h);refine Eve.ite (fun _=>?_) (fun h=>absurd (by omega) h);simp only [rdIP _ _ hi,wi (show i≤9223372036854775806 by omega)];refine Eve.ite (fun _=>?_) (fun h=>absurd ?_ h)
  ·
   exact (ih (ys++T[i].f1) (by rw [← hI,List.append_assoc])).eq (by rw [List.append_assoc,List.flatMap_cons])
  have:=congrArg List.length hI;simp only [List.length_append] at this
  omega) [] (by simp)
 simpa using this
theorem contains_tells (xs : List Int) (a : Int) (h : xs.length≤1048576) : Eve (fun k=>F05.f k xs a) (xs.contains a):=by
 simp only [F05.f,Fv.f];refine Eve.bind (v:=first (fun x=>decide (a=x)) xs 0) ?_ (Eve.one.eq ?_)
 ·
  refine ev_loop0 xs (fun k (_ : Unit) i=>Fv.l0 k xs a (xs.length : Int) i) (fun i _ r=>first (fun x=>decide (a=x)) r i) (fun _ _=>True) (fun _ _=>?_) (fun i hi s _ ih=>?_) () trivial
  ·
   simp only [Fv.l0]
   exact Eve.ite (fun h=>absurd h (by omega)) (fun _=>Eve.one)
  simp only [Fv.l0];refine Eve.ite (fun _=>?_) (fun h=>absurd (by omega) h);refine Eve.ite (fun _=>?_) (fun h=>absurd (by omega) h);refine Eve.ite (fun _=>?_) (fun h=>absurd (by omega) h);simp only [rd_at _ _ hi,wi (show i≤9223372036854775806 by omega)];refine Eve.ite (fun h=>Eve.one.eq ?_) (fun h=>(ih () trivial).eq ?_)
  ·
   simp [first,h]
  simp [first,h]
 rw [first_any]
 induction xs with
 | nil=>rfl
 | cons x xs ih =>
  rw [List.any_cons,ih (by simp at h;omega),List.contains_cons]
  by_cases e : a=x <;> simp [e]
theorem implOK_tells (T : List IPag) (n : Int) (hT : T.length≤1048576) (hf : (T.flatMap (·.f1)).length≤1048576) : Eve (fun k=>F3.f k T n) (tok T n):=by
 have hj1 : Eve (fun k=>F3.j0 k true T n) false:=Eve.succ (by simp only [F3.j0,if_true];exact Eve.one);simp only [F3.f,in_impl,Option.bind_some];refine Eve.ite (fun h1=>?_) (fun h1=>hj1.eq (by simp [tok,h1]))
 cases h2 : inr n 2 100000
 ·
  exact hj1.eq (by simp [tok,h2])
 refine Eve.succ ?_;simp only [F3.j0,Bool.not_true,Bool.false_eq_true,if_false]
 have hn : wrap64 (n - 1)=n - 1:=by
  unfold inr at h2;simp only [Bool.and_eq_true,decide_eq_true_eq] at h2;exact w64 (by omega) (by omega)
 have:=ev_loop0 T (fun k ys i=>F3.l0 k ys T (T.length : Int) i T n) (fun _ ys r=>poks T n ys r && ens noE (T.flatMap (·.f1))) (fun i ys=>ys.length=i) (fun ys hy=>by
  simp only [F3.l0];refine Eve.ite (fun h=>absurd h (by omega)) (fun _=>?_);refine Eve.bind (entries_tells T n hT hf) ?_;generalize hE : T.flatMap (·.f1)=E at hf ⊢
  have hl:=ev_loop0 E (fun k (_ : Unit) i=>F3.l1 k E E (E.length : Int) i) (fun i _ r=>ens (if i=0 then noE else E.getD (i - 1) noE) r) (fun _ _=>True) (fun _ _=>by
   simp only [F3.l1]
   exact Eve.ite (fun h=>absurd h (by omega)) (fun _=>Eve.one)) (fun i hi s _ ih=>by
   simp only [F3.l1];refine Eve.ite (fun _=>?_) (fun h=>absurd (by omega) h);refine Eve.ite (fun _=>?_) (fun h=>absurd (by omega) h);refine Eve.ite (fun _=>?_) (fun h=>absurd (by omega) h);simp only [rdIE _ _ hi,eok_impl,Option.bind_some,wi (show i≤9223372036854775806 by omega)];have hnx:=ih () trivial;simp only [Nat.add_one_ne_zero,if_false,Nat.add_sub_cancel,List.getD_eq_getElem?_getD,List.getElem?_eq_getElem hi,Option.getD_some] at hnx;refine Eve.ite (fun h1=>?_) (fun h1=>Eve.one.eq (by simp [ens,h1]));refine Eve.ite (fun h2=>?_) (fun h2=>hnx.eq ?_)
   ·
    have hw : wrap64 ((i : Int) - 1)=((i - 1 : Nat) : Int):=by rw [w64 (by omega) (by omega)];omega
    simp only [hw];refine Eve.ite (fun _=>?_) (fun h=>absurd (by omega) h);refine Eve.ite (fun _=>?_) (fun h=>absurd (by omega) h);rw [if_neg (by omega),List.getD_eq_getElem?_getD,List.getElem?_eq_getElem (show i - 1<E.length by omega),Option.getD_some];simp only [rdIE _ _ (show i - 1<E.length by omega)];refine Eve.bind (compare_tells _ _) ?_;refine Eve.ite (fun h3=>Eve.one.eq ?_) (fun h3=>hnx.eq ?_)
    ·
     have:=(ce_lt _ _).1 h3
     simp [ens,this]
    have : el (E[i - 1]) E[i]=true:=by
     by_cases h4 : el (E[i - 1]) E[i]=true
     ·
      exact h4
     exact absurd ((ce_lt _ _).2 h4) h3
    simp [ens,this,h1]
   obtain rfl : i=0:=by omega
   rw [if_pos rfl]
   simp [ens,h1,noE_less _ h1]) () trivial
  rw [if_pos rfl] at hl
  exact hl.eq (by simp [poks])) (fun i hi ys hI ih=>by
  simp only [F3.l0];refine Eve.ite (fun _=>?_) (fun h=>absurd (by omega) h);refine Eve.ite (fun _=>?_) (fun h=>absurd (by omega) h);refine Eve.ite (fun _=>?_) (fun h=>absurd (by omega) h);simp only [rdIP _ _ hi,hn,in_impl,Option.bind_some,wi (show i≤9223372036854775806 by omega)];refine Eve.ite (fun h1=>?_) (fun h1=>Eve.one.eq (by simp [poks,pok,h1]));refine Eve.bind (contains_tells ys _ (by omega)) ?_;refine Eve.ite (fun h2=>Eve.one.eq (by simp only [poks,pok,h2];simp)) (fun h2=>?_);refine Eve.ite (fun h3=>Eve.one.eq ?_) (fun h3=>?_)
  ·
   have : ¬ ((T[i].f1.length : Int)≤4):=by omega
   simp only [poks,pok,this];simp
  have h3' : ((T[i].f1.length : Int)≤4):=by omega
  have hnx:=ih (ys ++ [T[i].f0]) (by simp [hI]);refine Eve.ite (fun h4=>?_) (fun h4=>?_)
  ·
   refine Eve.ite (fun h5=>Eve.one.eq ?_) (fun h5=>?_)
   ·
    simp only [poks,pok,h4,h5];simp
   refine Eve.ite (fun _=>hnx.eq ?_) (fun h=>absurd (by omega) h);simp only [poks,pok,h1,h2,h4,h5];simp
  refine Eve.ite (fun _=>hnx.eq ?_) (fun h=>absurd (by omega) h)
  simp only [poks,pok,h1,h2,h3',h4];simp) [] rfl
 exact this.eq (by simp [tok,h1,h2])
theorem specOK_tells (T : List IPag) (n : Int) (hT : T.length≤1048576) (hf : ∀ p ∈ T,p.f1.length≤1048576) : Eve (fun k=>F4.f k T n) (tok T n):=by
 have hj1 : Eve (fun k=>F4.j0 k true T n) false:=Eve.succ (by simp only [F4.j0,if_true];exact Eve.one);simp only [F4.f,in_spec,Option.bind_some];refine Eve.ite (fun h1=>?_) (fun h1=>hj1.eq (by simp [tok,h1]))
 cases h2 : inr n 2 100000
 ·
  exact hj1.eq (by simp [tok,h2])
 refine Eve.succ ?_;simp only [F4.j0,Bool.not_true,Bool.false_eq_true,if_false]
 have hn : wrap64 (n - 1)=n - 1:=by
  unfold inr at h2;simp only [Bool.and_eq_true,decide_eq_true_eq] at h2;exact w64 (by omega) (by omega)
 have:=ev_loop0 T (fun k (e : IEnt) i=>F4.l0 k i T n e.f0 e.f1) (fun i e r=>poks T n ((T.take i).map (·.f0)) r && ens e (r.flatMap (·.f1))) (fun _ _=>True) (fun e _=>by
  simp only [F4.l0]
  exact Eve.ite (fun h=>absurd h (by omega)) (fun _=>Eve.one)) (fun i hi e _ ih=>by
  have htk : (T.take (i+1)).map (·.f0)=(T.take i).map (·.f0) ++ [T[i].f0]:=by
   rw [List.take_succ_eq_append_getElem hi,List.map_append];rfl
  simp only [htk] at ih;simp only [F4.l0];refine Eve.ite (fun _=>?_) (fun h=>absurd (by omega) h);refine Eve.ite (fun _=>?_) (fun h=>absurd (by omega) h);simp only [rdIP _ _ hi,hn,in_spec,Option.bind_some];generalize hp : T[i]=p at ih ⊢;have hpl : p.f1.length≤1048576:=by rw [← hp];exact hf _ (List.getElem_mem hi)
  have hjt : ∀ v,v=false→Eve (fun k=>F4.j2 k (i : Int) true T n e.f0 e.f1 p.f0 p.f1) v:=fun v hv=>Eve.succ (by simp only [F4.j2,if_true];exact Eve.one.eq hv.symm);have hjf : ∀ v,Eve (fun k=>F4.l1 k (i : Int) 0 T n e.f0 e.f1 p.f0 p.f1) v→Eve (fun k=>F4.j2 k (i : Int) false T n e.f0 e.f1 p.f0 p.f1) v:=fun v hv=>Eve.succ (by simp only [F4.j2,Bool.false_eq_true,if_false];exact hv)
  have hl2 : Eve (fun k=>F4.l2 k (i : Int) 0 T n e.f0 e.f1 p.f0 p.f1) (ens e p.f1 && (poks T n ((T.take i).map (·.f0) ++ [p.f0]) (T.drop (i+1)) && ens (lastE e p.f1) ((T.drop (i+1)).flatMap (·.f1)))):=by
   refine ev_loop0 p.f1 (fun k (e : IEnt) j=>F4.l2 k (i : Int) j T n e.f0 e.f1 p.f0 p.f1) (fun _ e r=>ens e r && (poks T n ((T.take i).map (·.f0) ++ [p.f0]) (T.drop (i+1)) && ens (lastE e r) ((T.drop (i+1)).flatMap (·.f1)))) (fun _ _=>True) (fun e' _=>?_) (fun j hj e' _ ih2=>?_) e trivial
   ·
    simp only [F4.l2]
    refine Eve.ite (fun h=>absurd h (by omega)) (fun _=>?_);simp only [wi (show i≤9223372036854775806 by omega)];exact (ih e' trivial).eq (by simp [ens,lastE])
   simp only [F4.l2];refine Eve.ite (fun _=>?_) (fun h=>absurd (by omega) h);refine Eve.ite (fun _=>?_) (fun h=>absurd (by omega) h);simp only [rdIE _ _ hj,eok_spec,less_tells,Option.bind_some,wi (show j≤9223372036854775806 by omega)];refine Eve.ite (fun h1=>?_) (fun h1=>Eve.one.eq (by simp [ens,h1]));refine Eve.ite (fun h2=>(ih2 p.f1[j] trivial).eq ?_) (fun h2=>Eve.one.eq (by simp [ens,h2]));simp only [ens,h1,h2,lastE,Bool.true_and]
  have hl1 : Eve (fun k=>F4.l1 k (i : Int) 0 T n e.f0 e.f1 p.f0 p.f1) (!((T.take i).map (·.f0)).contains p.f0 && (ens e p.f1 && (poks T n ((T.take i).map (·.f0) ++ [p.f0]) (T.drop (i+1)) && ens (lastE e p.f1) ((T.drop (i+1)).flatMap (·.f1))))):=by
   have hx : (T.take i).length=i:=by simp;omega
   refine ev_loop0 (T.take i) (fun k (_ : Unit) j=>F4.l1 k (i : Int) j T n e.f0 e.f1 p.f0 p.f1) (fun _ _ r => !(r.map (·.f0)).contains p.f0 && (ens e p.f1 && (poks T n ((T.take i).map (·.f0) ++ [p.f0]) (T.drop (i+1)) && ens (lastE e p.f1) ((T.drop (i+1)).flatMap (·.f1))))) (fun _ _=>True) (fun _ _=>?_) (fun j hj s _ ih2=>?_) () trivial
   ·
    simp only [F4.l1,hx]
    exact Eve.ite (fun h=>absurd h (by omega)) (fun _=>hl2.eq (by simp))
   have hjT : j<T.length:=by omega
   simp only [F4.l1];refine Eve.ite (fun _=>?_) (fun h=>absurd (by omega) h);refine Eve.ite (fun _=>?_) (fun h=>absurd (by omega) h);refine Eve.ite (fun _=>?_) (fun h=>absurd (by omega) h);simp only [rdIP _ _ hjT,wi (show j≤9223372036854775806 by omega),List.getElem_take];refine Eve.ite (fun h=>Eve.one.eq ?_) (fun h=>(ih2 () trivial).eq ?_)
   ·
    simp [h]
   simp [Ne.symm h]
  have happ : ∀ b : Bool,(b && poks T n ((T.take i).map (·.f0) ++ [p.f0]) (T.drop (i+1)) && ens e ((p :: T.drop (i+1)).flatMap (·.f1)))=(b && (ens e p.f1 && (poks T n ((T.take i).map (·.f0) ++ [p.f0]) (T.drop (i+1)) && ens (lastE e p.f1) ((T.drop (i+1)).flatMap (·.f1))))):=by
   intro b;rw [List.flatMap_cons,ens_append];generalize poks T n ((T.take i).map (·.f0) ++ [p.f0]) (T.drop (i+1))=u
   cases b <;> cases u <;> simp
  simp only [poks,happ];refine Eve.ite (fun h1=>?_) (fun h1=>hjt _ (by simp [pok,h1]));refine Eve.ite (fun h3=>hjt _ ?_) (fun h3=>?_)
  ·
   have : ¬ ((p.f1.length : Int)≤4):=by omega
   simp only [pok,this];simp
  have h3' : ((p.f1.length : Int)≤4):=by omega
  refine Eve.ite (fun h4=>?_) (fun h4=>?_)
  ·
   by_cases h5 : (T.length : Int) > 1
   ·
    simp only [h5,decide_true]
    refine hjt _ ?_;simp only [pok,h4,h5];simp
   simp only [h5,decide_false];refine (hjf _ hl1).eq ?_;simp only [pok,h1,h4,h5];simp
  refine (hjf _ hl1).eq ?_
  simp only [pok,h1,h3',h4];simp) noE trivial
 exact this.eq (by simp [tok,h1,h2])
def ihas (lo hi : ByteArray) (op : Bool) (key : ByteArray) : Bool:=if Op.bytesLess key.toList lo.toList=true then false else if op=true then true else Op.bytesLess key.toList hi.toList
def place (e : IEnt) : Nat→Int→List IPag→Int
 | _,at_,[]=>at_
 | i,at_,p :: ps=>place e (i+1) (match p.f1 with|[]=>at_|f :: _=>if el e f=true then at_ else (i : Int)) ps
theorem bl_trans : ∀ {x y z : List UInt8},Op.bytesLess x y=true→Op.bytesLess y z=true→Op.bytesLess x z=true
 | [],_,[],_,h=>by rename_i y _;cases y <;> simp [Op.bytesLess] at h
 | [],_,_ :: _,_,_=>by simp [Op.bytesLess]
 | _ :: _,[],_,h,_=>by simp [Op.bytesLess] at h
 | _ :: _,_ :: _,[],_,h=>by simp [Op.bytesLess] at h
 | a :: x,b :: y,c :: z,h1,h2=>by
  simp only [Op.bytesLess,Bool.or_eq_true,Bool.and_eq_true,decide_eq_true_eq,beq_iff_eq] at h1 h2 ⊢;rcases h1 with h1|⟨rfl,h1⟩ <;> rcases h2 with h2|⟨rfl,h2⟩
  ·
   left;rw [UInt8.lt_iff_toNat_lt] at *;omega
  ·
   exact .inl h1
  ·
   exact .inl h2
  exact .inr ⟨rfl,bl_trans h1 h2⟩
theorem bl_asymm {x y : List UInt8} (h : Op.bytesLess x y=true) : Op.bytesLess y x=false:=by
 cases h2 : Op.bytesLess y x with
 | false=>rfl
 | true=>have:=bl_trans h h2;rw [less_irrefl] at this;exact absurd this (by simp)
theorem bl_total {x y : List UInt8} (h1 : ¬ Op.bytesLess x y=true) (h2 : ¬ x=y) : Op.bytesLess y x=true:=by
 have:=bytesLess_total x y;rw [← this];simp [h1,h2]
theorem el_trans {a b c : IEnt} (h1 : el a b=true) (h2 : el b c=true) : el a c=true:=by
 unfold el at *;simp only [Bool.or_eq_true,Bool.and_eq_true,decide_eq_true_eq] at *;rcases h1 with h1|⟨h1,h1'⟩ <;> rcases h2 with h2|⟨h2,h2'⟩
 ·
  exact .inl (bl_trans h1 h2)
 ·
  exact .inl (h2 ▸ h1)
 ·
  exact .inl (h1 ▸ h2)
 exact .inr ⟨h1.trans h2,by omega⟩
theorem ens_ahead : ∀ (p : IEnt) (xs : List IEnt),ens p xs=true → ∀ x ∈ xs,el p x=true∧eok x=true
 | _,[],_,x,hx=>by simp at hx
 | p,e :: xs,h,x,hx=>by
  simp only [ens,Bool.and_eq_true] at h;rcases List.mem_cons.1 hx with rfl|hx
  ·
   exact ⟨h.2.1,h.1⟩
  have:=ens_ahead e xs h.2.2 x hx;exact ⟨el_trans h.2.1 this.1,this.2⟩
theorem ens_right : ∀ (p : IEnt) (xs ys : List IEnt),ens p (xs++ys)=true→ens (lastE p xs) ys=true:=fun p xs ys h=>by
 rw [ens_append,Bool.and_eq_true] at h;exact h.2
theorem ens_left : ∀ (p : IEnt) (xs ys : List IEnt),ens p (xs++ys)=true→ens p xs=true:=fun p xs ys h=>by
 rw [ens_append,Bool.and_eq_true] at h;exact h.1
theorem ens_behind : ∀ (p : IEnt) (xs : List IEnt) (f : IEnt) (ys : List IEnt),ens p (xs++f :: ys)=true → ∀ x ∈ xs,el x f=true
 | _,[],_,_,_,x,hx=>by simp at hx
 | p,e :: xs,f,ys,h,x,hx=>by
  simp only [List.cons_append,ens,Bool.and_eq_true] at h;rcases List.mem_cons.1 hx with rfl|hx
  ·
   exact (ens_ahead _ _ h.2.2 f (by simp)).1
  exact ens_behind e xs f ys h.2.2 x hx
theorem low_out {lo hi : ByteArray} {op : Bool} {x f : IEnt} (hx : eok x=true) (h1 : el x f=true) (h2 : ¬ el ⟨lo,-1⟩ f=true) : ihas lo hi op x.f0=false:=by
 have h3 : Op.bytesLess x.f0.toList lo.toList=true:=by
  by_cases h : Op.bytesLess x.f0.toList lo.toList=true
  ·
   exact h
  exfalso;apply h2
  by_cases e : x.f0.toList=lo.toList
  ·
   have : el ⟨lo,-1⟩ x=true:=by
    unfold eok inr at hx;simp only [Bool.and_eq_true,decide_eq_true_eq] at hx;unfold el;simp only [Bool.or_eq_true,Bool.and_eq_true,decide_eq_true_eq];exact .inr ⟨e.symm,by omega⟩
   exact el_trans this h1
  have : el ⟨lo,-1⟩ x=true:=by
   unfold el;simp only [Bool.or_eq_true];exact .inl (bl_total h e)
  exact el_trans this h1
 unfold ihas;rw [if_pos h3]
theorem high_out {lo hi : ByteArray} {x f : IEnt} (h1 : x=f∨el f x=true) (h2 : ¬ Op.bytesLess f.f0.toList hi.toList=true) : ihas lo hi false x.f0=false:=by
 have h3 : Op.bytesLess x.f0.toList hi.toList=false:=by
  cases h : Op.bytesLess x.f0.toList hi.toList with
  | false=>rfl
  | true =>
   exfalso;rcases h1 with rfl|h1
   ·
    exact h2 h
   unfold el at h1;simp only [Bool.or_eq_true,Bool.and_eq_true,decide_eq_true_eq] at h1;rcases h1 with h1|⟨h1,_⟩
   ·
    exact h2 (bl_trans h1 h)
   exact h2 (by rw [h1];exact h)
 unfold ihas;rw [h3]
 split
 ·
  rfl
 split
 ·
  contradiction
 rfl
def stop (hi : ByteArray) (op : Bool) (p : IPag) : Bool:=!op && match p.f1 with|[]=>false|f :: _ => !Op.bytesLess f.f0.toList hi.toList
def taken (hi : ByteArray) (op : Bool) : List IPag→List IPag
 | [] => []
 | p :: ps=>if stop hi op p=true then [] else p :: taken hi op ps
def ranged (hi : ByteArray) (op : Bool) : List IPag→List IPag
 | [] => []
 | p :: ps=>p :: taken hi op ps
theorem taken_all {lo hi : ByteArray} {op : Bool} : ∀ (q : IEnt) (ps : List IPag),ens q (ps.flatMap (·.f1))=true→((taken hi op ps).flatMap (·.f1)).filter (fun e=>ihas lo hi op e.f0)=(ps.flatMap (·.f1)).filter (fun e=>ihas lo hi op e.f0)
 | _,[],_=>rfl
 | q,p :: ps,h=>by
  unfold taken
  by_cases hs : stop hi op p=true
  ·
   rw [if_pos hs]
   symm
   show _=List.filter _ [];rw [List.filter_nil,List.filter_eq_nil_iff];intro x hx;unfold stop at hs;rw [Bool.and_eq_true] at hs;obtain ⟨h1,h2⟩:=hs
   cases hp : p.f1 with
   | nil=>rw [hp] at h2;simp at h2
   | cons f fs =>
    rw [hp] at h2;simp only at h2;have hop : op=false:=by simpa using h1
    subst hop;rw [List.flatMap_cons,hp,List.cons_append] at h hx;simp only [ens,Bool.and_eq_true] at h;rw [high_out (f:=f) ?_ (by simpa using h2)]
    ·
     simp
    rcases List.mem_cons.1 hx with rfl|hx
    ·
     exact .inl rfl
    exact .inr (ens_ahead _ _ h.2.2 x hx).1
  rw [if_neg hs,List.flatMap_cons,List.flatMap_cons,List.filter_append,List.filter_append];rw [List.flatMap_cons] at h;rw [taken_all _ ps (ens_right _ _ _ h)]
theorem ranged_all {lo hi : ByteArray} {op : Bool} (q : IEnt) (ps : List IPag) (h : ens q (ps.flatMap (·.f1))=true) : ((ranged hi op ps).flatMap (·.f1)).filter (fun e=>ihas lo hi op e.f0)=(ps.flatMap (·.f1)).filter (fun e=>ihas lo hi op e.f0):=by
 cases ps with
 | nil=>rfl
 | cons p ps =>
  rw [List.flatMap_cons] at h;unfold ranged;rw [List.flatMap_cons,List.flatMap_cons,List.filter_append,List.filter_append,taken_all _ ps (ens_right _ _ _ h)]
theorem place_at (e : IEnt) : ∀ (T : List IPag) (i : Nat) (c : Int),place e i c T=c ∨ ∃ j f fs,∃ h : j<T.length,place e i c T=((i+j : Nat) : Int)∧T[j].f1=f :: fs ∧ ¬ el e f=true
 | [],_,_ => .inl rfl
 | p :: ps,i,c=>by
  simp only [place];rcases place_at e ps (i+1) (match p.f1 with|[]=>c|f :: _=>if el e f=true then c else (i : Int)) with h|⟨j,f,fs,hj,h,h1,h2⟩
  ·
   rw [h]
   cases hp : p.f1 with
   | nil=>exact .inl rfl
   | cons f fs =>
    simp only
    by_cases hl : el e f=true
    ·
     rw [if_pos hl];exact .inl rfl
    rw [if_neg hl];exact .inr ⟨0,f,fs,by simp,by simp,hp,hl⟩
  exact .inr ⟨j+1,f,fs,by simpa using hj,by rw [h];congr 1;omega,h1,h2⟩
theorem drop_all {lo hi : ByteArray} {op : Bool} (T : List IPag) (h : ens noE (T.flatMap (·.f1))=true) : ((T.drop (place ⟨lo,-1⟩ 0 0 T).toNat).flatMap (·.f1)).filter (fun e=>ihas lo hi op e.f0)=(T.flatMap (·.f1)).filter (fun e=>ihas lo hi op e.f0):=by
 rcases place_at ⟨lo,-1⟩ T 0 0 with e|⟨j,f,fs,hj,e,h1,h2⟩
 ·
  rw [e];rfl
 rw [e];have e0 : ((0+j : Nat) : Int).toNat=j:=by omega
 rw [e0];have hT : T=T.take j++T.drop j:=(List.take_append_drop j T).symm
 have hF : T.flatMap (·.f1)=(T.take j).flatMap (·.f1)++(T.drop j).flatMap (·.f1):=by
  conv=>lhs;rw [hT]
  rw [List.flatMap_append]
 have hD : (T.drop j).flatMap (·.f1)=f :: (fs++(T.drop (j+1)).flatMap (·.f1)):=by
  rw [drop_at T j hj,List.flatMap_cons,h1];rfl
 rw [hF,List.filter_append]
 have : ((T.take j).flatMap (·.f1)).filter (fun e=>ihas lo hi op e.f0)=[]:=by
  rw [List.filter_eq_nil_iff];intro x hx;rw [hF] at h;have ha:=(ens_ahead _ _ (ens_left _ _ _ h) x hx).2;rw [hD] at h;have hb:=ens_behind _ _ _ _ h x hx;rw [low_out ha hb h2];simp
 rw [this,List.nil_append]
theorem ens_drop (T : List IPag) (j : Nat) (h : ens noE (T.flatMap (·.f1))=true) : ∃ q,ens q ((T.drop j).flatMap (·.f1))=true:=by
 have hF : T.flatMap (·.f1)=(T.take j).flatMap (·.f1)++(T.drop j).flatMap (·.f1):=by
  conv=>lhs;rw [← List.take_append_drop j T]
  rw [List.flatMap_append]
 rw [hF] at h;exact ⟨_,ens_right _ _ _ h⟩
theorem range_all {lo hi : ByteArray} {op : Bool} (T : List IPag) (h : ens noE (T.flatMap (·.f1))=true) :
  ((ranged hi op (T.drop (place ⟨lo,-1⟩ 0 0 T).toNat)).flatMap (·.f1)).filter (fun e=>ihas lo hi op e.f0)=(T.flatMap (·.f1)).filter (fun e=>ihas lo hi op e.f0):=by
 obtain ⟨q,hq⟩:=ens_drop T (place ⟨lo,-1⟩ 0 0 T).toNat h;rw [ranged_all q _ hq,drop_all T h]
end Go.Proofs.Ytgifonogfgpjdaa.Pure
end
section
namespace Go.Proofs.Ytgifonogfgpjdaa.Pure
open Go Go.RowKit Go.Proofs.Ytgifonogfgpjdaa.Q Go.Proofs.YtgifonogfgpjdaaW.PrintWords Go.Proofs.YtgifonogfgpjdaaW.PrintLast Go.Proofs.YtgifonogfgpjdaaW.PrintMore Go.Proofs.YtgifonogfgpjdaaW.Pl
theorem place_spec (T : List IPag) (n : Int) (e : IEnt) (hT : T.length≤1048576) (h0 : 0<T.length) : Eve (fun k=>Fa.f k T n e.f0 e.f1) (place e 1 0 (T.drop 1)):=by
 simp only [Fa.f]
 have:=ev_loop T (fun k (c : Int) i=>Fa.l0 k c i T n e.f0 e.f1) (fun i c r=>place e i c r) (fun _ _=>True) (fun c _=>by
  simp only [Fa.l0]
  exact Eve.ite (fun h=>absurd h (by omega)) (fun _=>Eve.one)) (fun i hi c hI ih=>by
  simp only [Fa.l0];refine Eve.ite (fun _=>?_) (fun h=>absurd (by omega) h);refine Eve.ite (fun _=>?_) (fun h=>absurd (by omega) h);simp only [rdIP _ _ hi,wi (show i≤9223372036854775806 by omega)];refine Eve.ite (fun h=>?_) (fun h=>?_)
  ·
   refine Eve.ite (fun _=>?_) (fun h=>absurd (by omega) h)
   have hl : 0<T[i].f1.length:=by omega
   have hr:=rdIE T[i].f1 0 hl;simp only [show ((0 : Nat) : Int)=0 from rfl] at hr;simp only [hr,less_tells,Option.bind_some];have hc : T[i].f1=T[i].f1[0] :: T[i].f1.drop 1:=drop_at T[i].f1 0 hl;refine Eve.ite (fun h1=>(ih c trivial).eq ?_) (fun h1=>(ih (i : Int) trivial).eq ?_)
   ·
    rw [place,hc];simp only [h1,if_true]
   rw [place,hc];simp only [if_neg h1]
  have hc : T[i].f1=[]:=List.length_eq_zero_iff.1 (by omega)
  exact (ih c trivial).eq (by rw [place,hc])) (T.length - 1) 1 0 (by omega) trivial
 exact this
theorem place_impl (T : List IPag) (n : Int) (e : IEnt) (hT : T.length≤1048576) : Eve (fun k=>Fc.f k T n e.f0 e.f1) (place e 0 0 T):=by
 simp only [Fc.f];refine ev_loop0 T (fun k (c : Int) i=>Fc.l0 k c T (T.length : Int) i e.f0 e.f1) (fun i c r=>place e i c r) (fun _ _=>True) (fun c _=>?_) (fun i hi c hI ih=>?_) 0 trivial
 ·
  simp only [Fc.l0]
  exact Eve.ite (fun h=>absurd h (by omega)) (fun _=>Eve.one)
 simp only [Fc.l0];refine Eve.ite (fun _=>?_) (fun h=>absurd (by omega) h);refine Eve.ite (fun _=>?_) (fun h=>absurd (by omega) h);refine Eve.ite (fun _=>?_) (fun h=>absurd (by omega) h);simp only [rdIP _ _ hi,wi (show i≤9223372036854775806 by omega)];refine Eve.ite (fun h=>?_) (fun h=>?_)
 ·
  refine Eve.ite (fun _=>?_) (fun h=>absurd (by omega) h)
  have hl : 0<T[i].f1.length:=by omega
  have hr:=rdIE T[i].f1 0 hl;simp only [show ((0 : Nat) : Int)=0 from rfl] at hr;simp only [hr];have hc : T[i].f1=T[i].f1[0] :: T[i].f1.drop 1:=drop_at T[i].f1 0 hl;refine Eve.bind (compare_tells _ _) ?_;refine Eve.ite (fun h1=>(ih (i : Int) trivial).eq ?_) (fun h1=>(ih c trivial).eq ?_)
  ·
   rw [place,hc];simp only [if_neg ((ce_le _ _).1 h1)]
  have h2 : el e T[i].f1[0]=true:=by
   by_cases h4 : el e T[i].f1[0]=true
   ·
    exact h4
   exact absurd ((ce_le _ _).2 h4) h1
  rw [place,hc];simp only [h2,if_true]
 have hc : T[i].f1=[]:=List.length_eq_zero_iff.1 (by omega);exact (ih c trivial).eq (by rw [place,hc])
theorem place_from (T : List IPag) (e : IEnt) (h0 : 0<T.length) : place e 0 0 T=place e 1 0 (T.drop 1):=by
 cases T with
 | nil=>simp at h0
 | cons p ps =>
  simp only [place,List.drop_one,List.tail_cons]
  cases p.f1 with
  | nil=>rfl
  | cons f fs=>simp
theorem place_in (e : IEnt) : ∀ (T : List IPag) (i : Nat) (c : Int),0≤c→c<(i+T.length : Nat)→0≤place e i c T∧place e i c T<(i+T.length : Nat)
 | [],i,c,h0,h1=>by simp only [place];exact ⟨h0,h1⟩
 | p :: ps,i,c,h0,h1=>by
  simp only [place,List.length_cons] at *;have e1 : i+1+ps.length=i+(ps.length+1):=by omega
  rw [← e1] at h1 ⊢;apply place_in e ps (i+1)
  ·
   repeat' split
   all_goals omega
  repeat' split
  all_goals omega
theorem el_irrefl (a : IEnt) : el a a=false:=by
 unfold el;rw [less_irrefl];simp
theorem el_total {a b : IEnt} (h1 : ¬ el a b=true) (h2 : ¬ el b a=true) : a=b:=by
 unfold el at h1 h2;simp only [Bool.or_eq_true,Bool.and_eq_true,decide_eq_true_eq,not_or,not_and] at h1 h2
 by_cases e : a.f0.toList=b.f0.toList
 ·
  have:=h1.2 e
  have:=h2.2 e.symm;have h3 : a.f1=b.f1:=by omega
  have h4 : a.f0=b.f0:=ba_ext e
  cases a;cases b;simp_all
 exact absurd (bl_total h1.1 e) h2.1
theorem el_asym {a b : IEnt} (h1 : el a b=true) (h2 : el b a=true) : False:=by
 have:=el_trans h1 h2;rw [el_irrefl] at this;cases this
def Rise (l : List IEnt) : Prop:=l.Pairwise (fun a b=>el a b=true)
theorem ens_rise : ∀ (p : IEnt) (l : List IEnt),ens p l=true→Rise l
 | _,[],_=>List.Pairwise.nil
 | p,e :: l,h=>by
  have h':=h;simp only [ens,Bool.and_eq_true] at h';exact List.Pairwise.cons (fun x hx=>(ens_ahead _ _ h'.2.2 x hx).1) (ens_rise e l h'.2.2)
def up (e : IEnt) : List IEnt→Nat
 | []=>0
 | x :: xs=>if el x e=true then up e xs+1 else 0
theorem up_le (e : IEnt) : ∀ l : List IEnt,up e l≤l.length
 | []=>Nat.le_refl _
 | x :: xs=>by
  unfold up;have:=up_le e xs
  split
  ·
   simp only [List.length_cons];omega
  exact Nat.zero_le _
theorem up_before (e : IEnt) : ∀ (l : List IEnt) (j : Nat) (hj : j<l.length),j<up e l→el l[j] e=true
 | [],_,hj,_=>by simp at hj
 | x :: xs,j,hj,h=>by
  unfold up at h
  by_cases c : el x e=true
  ·
   rw [if_pos c] at h
   cases j with
   | zero=>exact c
   | succ j=>exact up_before e xs j (by simpa using hj) (by omega)
  rw [if_neg c] at h;omega
theorem up_at (e : IEnt) : ∀ (l : List IEnt) (h : up e l<l.length),¬ el l[up e l] e=true
 | [],h=>by simp at h
 | x :: xs,h=>by
  by_cases c : el x e=true
  ·
   have hu : up e (x :: xs)=up e xs+1:=by simp only [up,if_pos c]
   have h2 : up e xs<xs.length:=by rw [hu] at h;simpa using h
   have:=up_at e xs h2;simp only [hu,List.getElem_cons_succ];exact this
  have hu : up e (x :: xs)=0:=by simp only [up,if_neg c]
  simp only [hu,List.getElem_cons_zero];exact c
theorem rise_at {l : List IEnt} (hr : Rise l) (i j : Nat) (hi : i<l.length) (hj : j<l.length) (h : i<j) : el l[i] l[j]=true:=List.pairwise_iff_getElem.1 hr i j hi hj h
theorem up_after {l : List IEnt} (e : IEnt) (hr : Rise l) (j : Nat) (hj : j<l.length) (h : up e l≤j) : ¬ el l[j] e=true:=by
 have hu : up e l<l.length:=by omega
 by_cases c : j=up e l
 ·
  subst c;exact up_at e l hu
 intro h2;exact up_at e l hu (el_trans (rise_at hr _ _ hu hj (by omega)) h2)
theorem up_is {l : List IEnt} (e : IEnt) (p : Nat) (hp : p≤l.length) (h1 : ∀ j (hj : j<l.length),j<p→el l[j] e=true) (h2 : ∀ j (hj : j<l.length),p≤j → ¬ el l[j] e=true) : up e l=p:=by
 have hl:=up_le e l;rcases Nat.lt_trichotomy (up e l) p with h|h|h
 ·
  exact absurd (h1 _ (by omega) h) (up_at e l (by omega))
 ·
  exact h
 exact absurd (up_before e l p (by omega) h) (h2 p (by omega) (Nat.le_refl _))
def th (e : IEnt) (l : List IEnt) : Bool:=if h : up e l<l.length then (decide (l[up e l].f0.toList=e.f0.toList) && decide (l[up e l].f1=e.f1)) else false
theorem ent_eq {a b : IEnt} (h0 : a.f0.toList=b.f0.toList) (h1 : a.f1=b.f1) : a=b:=by
 have:=ba_ext h0
 cases a;cases b;simp_all
theorem th_iff (e : IEnt) (l : List IEnt) : th e l=true ↔ ∃ h : up e l<l.length,l[up e l]=e:=by
 unfold th
 by_cases h : up e l<l.length
 ·
  rw [dif_pos h]
  simp only [Bool.and_eq_true,decide_eq_true_eq];exact ⟨fun h2=>⟨h,ent_eq h2.1 h2.2⟩,fun ⟨_,h2⟩=>by rw [h2];exact ⟨rfl,rfl⟩⟩
 rw [dif_neg h];exact ⟨fun h2=>absurd h2 (by decide),fun ⟨h2,_⟩=>absurd h2 h⟩
theorem th_mem (e : IEnt) (l : List IEnt) (hr : Rise l) : th e l=true↔e ∈ l:=by
 rw [th_iff]
 constructor
 ·
  rintro ⟨h,h2⟩;rw [← h2];exact List.getElem_mem _
 intro hm;obtain ⟨j,hj,hje⟩:=List.getElem_of_mem hm
 have : up e l=j:=by
  refine up_is e j (Nat.le_of_lt hj) (fun q hq hqj=>by rw [← hje];exact rise_at hr q j hq hj hqj) (fun q hq hjq h2=>?_);rcases Nat.lt_or_eq_of_le hjq with h3|h3
  ·
   have:=rise_at hr j q hj hq h3
   rw [hje] at this;exact el_asym this h2
  subst h3;rw [hje,el_irrefl] at h2;cases h2
 exact ⟨by omega,by simp only [this];exact hje⟩
theorem at_none (e : IEnt) : ∀ (l : List IEnt) (i : Nat),(∀ x ∈ l,x≠e)→Fk.at l e.f0 e.f1 i=none
 | [],_,_=>rfl
 | x :: xs,i,h=>by
  have hx:=h x (by simp)
  have hc : (!(x.f0.toList == e.f0.toList) || (!(x.f1 == e.f1)))=true:=by
   by_cases h0 : x.f0.toList=e.f0.toList
   ·
    have h1 : ¬ x.f1=e.f1:=fun h1=>hx (ent_eq h0 h1)
    simp [h1]
   simp [h0]
  simp only [Fk.at];rw [if_pos hc];exact at_none e xs (i+1) (fun y hy=>h y (by simp [hy]))
theorem at_drop (e : IEnt) : ∀ (l : List IEnt) (i : Nat),Rise l→Fk.at l e.f0 e.f1 i=if th e l=true then some (i+up e l) else none
 | [],i,_=>rfl
 | x :: xs,i,hr=>by
  have hr2:=List.pairwise_cons.1 hr
  by_cases c : el x e=true
  ·
   have hu : up e (x :: xs)=up e xs+1:=by simp only [up,if_pos c]
   have hc : (!(x.f0.toList == e.f0.toList) || (!(x.f1 == e.f1)))=true:=by
    by_cases h0 : x.f0.toList=e.f0.toList
    ·
     have h1 : ¬ x.f1=e.f1:=fun h1=>by
      have:=ent_eq h0 h1;subst this;rw [el_irrefl] at c;cases c
     simp [h1]
    simp [h0]
   have ht : th e (x :: xs)=th e xs:=by
    rw [Bool.eq_iff_iff,th_iff,th_iff];simp only [hu,List.length_cons,Nat.add_lt_add_iff_right,List.getElem_cons_succ]
   simp only [Fk.at];rw [if_pos hc,at_drop e xs (i+1) hr2.2,ht,hu]
   split
   ·
    congr 1;omega
   rfl
  have hu : up e (x :: xs)=0:=by simp only [up,if_neg c]
  by_cases h0 : x=e
  ·
   subst h0
   have ht : th x (x :: xs)=true:=(th_iff _ _).2 ⟨by rw [hu];simp,by simp only [hu];rfl⟩;rw [if_pos ht,hu];simp [Fk.at]
  have ht : ¬ th e (x :: xs)=true:=by
   rw [th_iff];rintro ⟨h,h2⟩;simp only [hu,List.getElem_cons_zero] at h2;exact h0 h2
  rw [if_neg ht];refine at_none e _ i (fun y hy hye=>?_);rcases List.mem_cons.1 hy with h3|h3
  ·
   exact h0 (h3.symm.trans hye)
  exact c (hye ▸ hr2.1 y h3)
theorem own_tells (T : List IPag) (n : Int) (hT : T.length≤1048576) (hp : ∀ p ∈ T,p.f1.length≤1048576) : Eve (fun k=>Fd.f k T n) (T,n):=by
 simp only [Fd.f]
 have:=ev_loop0 T (fun k (o : List IPag) i=>Fd.l0 k o i T n) (fun _ o r=>(o++r,n)) (fun i o=>o.length=i) (fun o ho=>by
  simp only [Fd.l0]
  exact Eve.ite (fun h=>absurd h (by omega)) (fun _=>Eve.one.eq (by simp))) (fun i hi o ho ih=>by
  have hpi:=hp _ (List.getElem_mem hi);simp only [Fd.l0,Option.bind_some,rdIP _ _ hi,wi (show i≤9223372036854775806 by omega),List.length_nil,List.nil_append];refine Eve.ite (fun _=>?_) (fun h=>absurd (by omega) h);refine Eve.ite (fun _=>?_) (fun h=>absurd (by omega) h);refine Eve.ite (fun _=>?_) (fun h=>absurd (by omega) h);refine Eve.ite (fun _=>?_) (fun h=>absurd (by omega) h)
  exact (ih _ (by simp [ho])).eq (by rw [List.append_assoc];rfl)) [] rfl
 simpa using this
def pgN (T : List IPag) (e : IEnt) : Nat:=(place e 0 0 T).toNat
theorem pg_lt {T : List IPag} (e : IEnt) (h : 0<T.length) : pgN T e<T.length∧place e 0 0 T=(pgN T e : Int):=by
 have:=place_in e T 0 0 (by omega) (by omega);unfold pgN
 omega
def cutP (T : List IPag) (j i : Nat) (p : IPag) : List IPag:=if p.f1.length=1∧1<T.length then ((T.set j ⟨p.f0,p.f1.take i++p.f1.drop (i+1)⟩).take j)++((T.set j ⟨p.f0,p.f1.take i++p.f1.drop (i+1)⟩).drop (j+1)) else T.set j ⟨p.f0,p.f1.take i++p.f1.drop (i+1)⟩
def pageN (T : List IPag) (e : IEnt) : IPag:=T.getD (pgN T e) ⟨0,[]⟩
def dropT (T : List IPag) (e : IEnt) : List IPag:=cutP T (pgN T e) (up e (pageN T e).f1) (pageN T e)
theorem pageN_at {T : List IPag} (e : IEnt) (h : 0<T.length) : pageN T e=T[pgN T e]'(pg_lt e h).1:=by
 unfold pageN;rw [List.getD_eq_getElem?_getD,List.getElem?_eq_getElem (pg_lt e h).1];rfl
theorem rd_page {T : List IPag} (e : IEnt) (h : 0<T.length) : rd_T60 T (place e 0 0 T)=pageN T e:=by
 rw [(pg_lt e h).2,rdIP _ _ (pg_lt e h).1,pageN_at e h]
theorem flat_page {T : List IPag} {p : IPag} (h : p ∈ T) : p.f1.Sublist (T.flatMap (·.f1)):=by
 obtain ⟨i,hi,rfl⟩:=List.getElem_of_mem h
 have : T.flatMap (·.f1)=(T.take i).flatMap (·.f1)++(T[i].f1++(T.drop (i+1)).flatMap (·.f1)):=by
  conv=>lhs;rw [← List.take_append_drop i T,drop_at T i hi,List.flatMap_append,List.flatMap_cons]
 rw [this];exact (List.sublist_append_left _ _).trans (List.sublist_append_right _ _)
theorem page_rise {T : List IPag} (hr : Rise (T.flatMap (·.f1))) {p : IPag} (h : p ∈ T) : Rise p.f1:=List.Pairwise.sublist (flat_page h) hr
theorem drop_spec (T : List IPag) (n : Int) (e : IEnt) (hT : T.length≤1000000) (hp : ∀ p ∈ T,p.f1.length≤1000000) (h0 : 0<T.length) (hr : Rise (T.flatMap (·.f1))) :
  Eve (fun k=>Fk.f k T n e.f0 e.f1) (if th e (pageN T e).f1=true then (dropT T e,n,0) else (T,n,5)):=by
 simp only [Fk.f];have hpl:=place_spec T n e (by omega) h0;rw [← place_from _ _ h0] at hpl;refine Eve.bind hpl ?_;have hin:=place_in e T 0 0 (by omega) (by omega);have hg:=pg_lt e h0;have hpm : pageN T e ∈ T:=by rw [pageN_at e h0];exact List.getElem_mem _
 rw [rd_page e h0,show (place e 0 0 T).toNat=pgN T e from rfl];refine Eve.ite (fun _=>?_) (fun h=>absurd hin.1 h);refine Eve.ite (fun _=>?_) (fun h=>absurd (by omega) h);refine Eve.ite (fun _=>?_) (fun h=>absurd ⟨by omega,hp _ hpm⟩ h);rw [at_drop e _ 0 (page_rise hr hpm)]
 by_cases ht : th e (pageN T e).f1=true
 ·
  simp only [if_pos ht,Nat.zero_add]
  refine Eve.bind (own_tells T n (by omega) (fun p hp2=>by have:=hp p hp2;omega)) ?_;refine Eve.ite (fun _=>?_) (fun h=>absurd ⟨by simp only [hg.2];omega,by simp only [];omega⟩ h);have hrd : rd_T60 T (place e 0 0 T)=pageN T e:=rd_page e h0;simp only [hrd];unfold dropT cutP;refine Eve.ite (fun h=>Eve.one.eq (by rw [if_pos h])) (fun h=>Eve.one.eq (by rw [if_neg h]))
 simp only [if_neg ht];exact Eve.one
theorem at_put (e : IEnt) : ∀ (l : List IEnt) (i : Nat),F6.at l e.f0 e.f1 i=some (i+up e l)
 | [],i=>rfl
 | x :: xs,i=>by
  simp only [F6.at,less_tells,Option.bind_some,up]
  by_cases c : el x e=true
  ·
   rw [if_pos c,if_pos c,at_put e xs (i+1)]
   congr 1;omega
  rw [if_neg c,if_neg c];rfl
theorem there_iff (e : IEnt) (l : List IEnt) : (up e l<l.length∧((rd_T28 l (up e l : Int)).f0.toList == e.f0.toList && ((rd_T28 l (up e l : Int)).f1 == e.f1))=true)↔th e l=true:=by
 rw [th_iff]
 constructor
 ·
  rintro ⟨h,h2⟩
  rw [rdIE l _ h] at h2;simp only [Bool.and_eq_true,beq_iff_eq] at h2;exact ⟨h,ent_eq h2.1 h2.2⟩
 rintro ⟨h,h2⟩;refine ⟨h,?_⟩;rw [rdIE l _ h,h2];simp
def rowP (e : IEnt) (l : List IEnt) : List IEnt:=l.take (up e l) ++ [e]++l.drop (up e l)
theorem rowP_length (e : IEnt) (l : List IEnt) : (rowP e l).length=l.length+1:=by
 have:=up_le e l;unfold rowP;simp only [List.length_append,List.length_take,List.length_drop,List.length_singleton];omega
def putT (T : List IPag) (n : Int) (e : IEnt) : List IPag×Int×Int×Int:=F6.out T n (pgN T e) (pageN T e).f0 (rowP e (pageN T e).f1)
def putB (T : List IPag) (n : Int) (e : IEnt) : List IPag×Int×Int×Int:=if th e (pageN T e).f1=true then (T,n,0,12) else (if (pageN T e).f1.length=4∧(T.length=60∨n=100000) then (T,n,0,7) else putT T n e)
theorem put_spec (T : List IPag) (n : Int) (e : IEnt) (hT : T.length≤1000000) (hp : ∀ p ∈ T,p.f1.length≤1000000) (h0 : 0<T.length) (hn : 0≤n∧n≤1000000) :
  Eve (fun k=>F6.f k T n e.f0 e.f1) (putB T n e):=by
 simp only [F6.f];have hpl:=place_spec T n e (by omega) h0;rw [← place_from _ _ h0] at hpl;refine Eve.bind hpl ?_;have hin:=place_in e T 0 0 (by omega) (by omega);have hg:=pg_lt e h0;have hpm : pageN T e ∈ T:=by rw [pageN_at e h0];exact List.getElem_mem _
 rw [rd_page e h0,show (place e 0 0 T).toNat=pgN T e from rfl];refine Eve.ite (fun _=>?_) (fun h=>absurd hin.1 h);refine Eve.ite (fun _=>?_) (fun h=>absurd (by omega) h);refine Eve.ite (fun _=>?_) (fun h=>absurd ⟨by omega,hp _ hpm⟩ h);rw [at_put e _ 0];simp only [Option.bind_some,Nat.zero_add];unfold putB;refine Eve.ite (fun ht=>Eve.one.eq (by rw [if_pos ((there_iff _ _).1 ht)])) (fun ht=>?_);rw [if_neg (fun h=>ht ((there_iff _ _).2 h))];refine Eve.ite (fun hf=>Eve.one.eq (by rw [if_pos hf])) (fun hf=>?_);rw [if_neg hf];refine Eve.bind (own_tells T n (by omega) (fun p hp2=>by have:=hp p hp2;omega)) ?_;refine Eve.ite (fun _=>?_) (fun h=>absurd ⟨by simp only [hg.2];omega,by simp only [];omega,w64 (by simp only [];omega) (by simp only [];omega)⟩ h);simp only [rd_page e h0];exact Eve.one
theorem poks_small (T : List IPag) (n : Int) : ∀ (ps : List IPag) (seen : List Int),poks T n seen ps=true → ∀ p ∈ ps,p.f1.length≤4
 | [],_,_,p,hp=>by cases hp
 | q :: ps,seen,h,p,hp=>by
  simp only [poks,pok,Bool.and_eq_true,decide_eq_true_eq] at h;rcases List.mem_cons.1 hp with rfl|hp
  ·
   omega
  exact poks_small T n ps _ h.2 p hp
theorem tok_facts {T : List IPag} {n : Int} (h : tok T n=true) : 0<T.length∧T.length≤60∧Rise (T.flatMap (·.f1)) ∧ ∀ p ∈ T,p.f1.length≤4:=by
 simp only [tok,inr,Bool.and_eq_true,decide_eq_true_eq] at h;exact ⟨by omega,by omega,ens_rise _ _ h.2.2.2,poks_small T n T [] h.2.2.1⟩
theorem tok_next {T : List IPag} {n : Int} (h : tok T n=true) : 2≤n∧n≤100000:=by
 simp only [tok,inr,Bool.and_eq_true,decide_eq_true_eq] at h;exact ⟨h.2.1.1,h.2.1.2⟩
theorem set_small {T : List IPag} {j m : Nat} {q : Int} {X : List IEnt} (hp : ∀ p ∈ T,p.f1.length≤m) (hX : X.length≤m) : ∀ p ∈ T.set j ⟨q,X⟩,p.f1.length≤m:=fun p hp2=>by
 rcases List.mem_or_eq_of_mem_set hp2 with h|rfl
 ·
  exact hp p h
 exact hX
theorem putB_small (T : List IPag) (n : Int) (e : IEnt) (h0 : 0<T.length) (hT : T.length≤60) (hp : ∀ p ∈ T,p.f1.length≤4) : (putB T n e).1.length≤61 ∧ ∀ p ∈ (putB T n e).1,p.f1.length≤5:=by
 have hp5 : ∀ p ∈ T,p.f1.length≤5:=fun p h=>by have:=hp p h;omega
 have hpm : pageN T e ∈ T:=by rw [pageN_at e h0];exact List.getElem_mem _
 have hr:=rowP_length e (pageN T e).f1;have hpl:=hp _ hpm;unfold putB
 split
 ·
  exact ⟨by simp only [];omega,hp5⟩
 split
 ·
  exact ⟨by simp only [];omega,hp5⟩
 unfold putT F6.out
 split
 ·
  exact ⟨by simp only [List.length_set];omega,set_small hp5 (by omega)⟩
 simp only [];have hs:=set_small (j:=pgN T e) (q:=(pageN T e).f0) (set_small (j:=pgN T e) (q:=(pageN T e).f0) hp5 (X:=rowP e (pageN T e).f1) (by omega)) (X:=(rowP e (pageN T e).f1).take ((rowP e (pageN T e).f1).length / 2)) (by rw [List.length_take];omega);refine ⟨by simp only [List.length_append,List.length_take,List.length_drop,List.length_set,List.length_singleton];omega,fun p h=>?_⟩;rcases List.mem_append.1 h with h|h
 ·
  rcases List.mem_append.1 h with h|h
  ·
   exact hs p (List.mem_of_mem_take h)
  obtain rfl:=List.mem_singleton.1 h;simp only [List.length_drop];omega
 exact hs p (List.mem_of_mem_drop h)
theorem half_at (a b n : Nat) (h : a≤n) (h2 : b≤n) (hn : n≤1048576) : wrap64 ((IntKind.u64.wrap (wrap64 ((a : Int)+(b : Int)))) / 2)=(((a+b) / 2 : Nat) : Int):=by
 rw [w64 (show -9223372036854775808≤(a : Int)+(b : Int) by omega) (by omega),show IntKind.u64.wrap ((a : Int)+(b : Int))=((a : Int)+(b : Int)) % 18446744073709551616 from rfl,w64 (by omega) (by omega)]
 omega
theorem ce_neg (a b : IEnt) : ce a b<0↔el a b=true:=by
 have:=ce_lt a b
 by_cases h : el a b=true
 ·
  exact ⟨fun _=>h,fun _=>by
   by_cases h2 : ce a b ≥ 0
   ·
    exact absurd h (this.1 h2)
   omega⟩
 exact ⟨fun h2=>absurd (this.2 h) (by omega),fun h2=>absurd h2 h⟩
theorem ce_zero (a b : IEnt) : ce a b=0↔a=b:=by
 constructor
 ·
  intro h
  exact el_total ((ce_lt a b).1 (by omega)) ((ce_le a b).1 (by omega))
 rintro rfl;have h1:=(ce_lt a a).2 (by rw [el_irrefl];decide);have h2:=(ce_le a a).2 (by rw [el_irrefl];decide)
 omega
theorem half_ents (l : List IEnt) (e : IEnt) (hl : l.length≤1048576) (hr : Rise l) :
  ∀ (d a b : Nat),b - a≤d→a≤b→b≤l.length→(∀ j (hj : j<l.length),j<a→el l[j] e=true)→(∀ j (hj : j<l.length),b≤j → ¬ el l[j] e=true) →
   Eve (fun k=>Ff.l0 k l (l.length : Int) (a : Int) (b : Int) e.f0 e.f1) ((up e l : Int),th e l):=by
 intro d
 induction d with
 | zero =>
  intro a b hd hab hb h1 h2;obtain rfl : a=b:=by omega
  have hu : up e l=a:=up_is e a hb h1 h2;rw [hu];refine Eve.succ ?_;simp only [Ff.l0];refine Eve.ite (fun h=>absurd h (by omega)) (fun _=>?_)
  by_cases h : a<l.length
  ·
   simp only [rdIE l a h]
   refine Eve.ite (fun _=>Eve.ite (fun _=>Eve.ite (fun _=>Eve.bind (compare_tells l[a] e) (Eve.one.eq ?_)) (fun h=>absurd (by omega) h)) (fun h=>absurd (by omega) h)) (fun h=>absurd (by omega) h);have hz:=ce_zero l[a] e
   have : (ce l[a] e == 0)=th e l:=by
    rw [Bool.eq_iff_iff,th_iff,beq_iff_eq,hz];simp only [hu];exact ⟨fun h3=>⟨h,h3⟩,fun ⟨_,h3⟩=>h3⟩
   rw [this]
  have ht : th e l=false:=by
   unfold th;rw [dif_neg (by rw [hu];exact h)]
  rw [ht];exact Eve.ite (fun h=>absurd h (by omega)) (fun _=>Eve.one)
 | succ d ih =>
  intro a b hd hab hb h1 h2
  by_cases hlt : a<b
  ·
   have hm:=half_at a b l.length (by omega) hb hl
   have hq : (a+b) / 2<l.length:=by omega
   refine Eve.succ ?_;simp only [Ff.l0,hm,rdIE l _ hq,wi (show (a+b) / 2≤9223372036854775806 by omega)];refine Eve.ite (fun _=>?_) (fun h=>absurd (by omega) h);refine Eve.ite (fun _=>?_) (fun h=>absurd (by omega) h);refine Eve.ite (fun _=>?_) (fun h=>absurd (by omega) h);refine Eve.bind (compare_tells l[(a+b) / 2] e) ?_;refine Eve.ite (fun hc=>?_) (fun hc=>?_)
   ·
    have hc:=(ce_neg _ _).1 hc
    exact ih ((a+b) / 2+1) b (by omega) (by omega) hb (fun j hj hjm=>by
     by_cases e1 : j=(a+b) / 2
     ·
      subst e1;exact hc
     exact el_trans (rise_at hr j _ hj hq (by omega)) hc) h2
   have hc : ¬ el l[(a+b) / 2] e=true:=fun h=>hc ((ce_neg _ _).2 h)
   exact ih a ((a+b) / 2) (by omega) (by omega) (by omega) h1 (fun j hj hjm=>by
    by_cases e1 : j=(a+b) / 2
    ·
     subst e1;exact hc
    exact fun hlt2=>hc (el_trans (rise_at hr _ j hq hj (by omega)) hlt2))
  exact ih a b (by omega) hab hb h1 h2
theorem find_tells (T : List IPag) (n : Int) (e : IEnt) (hT : T.length≤1000000) (hp : ∀ p ∈ T,p.f1.length≤1000000) (h0 : 0<T.length) (hr : Rise (T.flatMap (·.f1))) :
  Eve (fun k=>Fz.f k T n e.f0 e.f1) (place e 0 0 T,(up e (pageN T e).f1 : Int),th e (pageN T e).f1):=by
 simp only [Fz.f];refine Eve.bind (place_impl T n e (by omega)) ?_;have hin:=place_in e T 0 0 (by omega) (by omega);have hpm : pageN T e ∈ T:=by rw [pageN_at e h0];exact List.getElem_mem _
 rw [rd_page e h0];refine Eve.ite (fun _=>?_) (fun h=>absurd hin.1 h);refine Eve.ite (fun _=>?_) (fun h=>absurd (by omega) h);simp only [Ff.f];have:=hp _ hpm;refine Eve.bind (half_ents (pageN T e).f1 e (by omega) (page_rise hr hpm) _ 0 (pageN T e).f1.length (by omega) (Nat.zero_le _) (Nat.le_refl _) (fun j _ h=>absurd h (by omega)) (fun j hj h=>absurd hj (by omega))) ?_;exact Eve.one
theorem clone_tells (T : List IPag) (n : Int) (hT : T.length≤1048576) (hp : ∀ p ∈ T,p.f1.length≤1048576) : Eve (fun k=>Fh.f k T n) (T,n):=by
 simp only [Fh.f]
 have:=ev_loop0 T (fun k (o : List IPag) i=>Fh.l0 k T (T.length : Int) i o n) (fun _ o r=>(o++r,n)) (fun i o=>o.length=i) (fun o ho=>by
  simp only [Fh.l0]
  exact Eve.ite (fun h=>absurd h (by omega)) (fun _=>Eve.one.eq (by simp))) (fun i hi o ho ih=>by
  have hpi:=hp _ (List.getElem_mem hi)
  have hc : F0b.f T[i].f1=some T[i].f1:=by
   unfold F0b.f;rw [if_pos (by omega)]
  simp only [Fh.l0,Option.bind_some,rdIP _ _ hi,wi (show i≤9223372036854775806 by omega),hc];refine Eve.ite (fun _=>?_) (fun h=>absurd (by omega) h);refine Eve.ite (fun _=>?_) (fun h=>absurd (by omega) h);refine Eve.ite (fun _=>?_) (fun h=>absurd (by omega) h);refine Eve.ite (fun _=>?_) (fun h=>absurd (by omega) h)
  exact (ih _ (by simp [ho])).eq (by rw [List.append_assoc];rfl)) [] rfl
 simpa using this
theorem erase_is {α : Type} (l : List α) (i : Nat) : l.eraseIdx i=l.take i++l.drop (i+1):=List.eraseIdx_eq_take_drop_succ l i
theorem drop_impl (T : List IPag) (n : Int) (e : IEnt) (hT : T.length≤1000000) (hp : ∀ p ∈ T,p.f1.length≤1000000) (h0 : 0<T.length) (hr : Rise (T.flatMap (·.f1))) :
  Eve (fun k=>F0e.f k T n e.f0 e.f1) (if th e (pageN T e).f1=true then (true,dropT T e) else (false,T)):=by
 simp only [F0e.f];refine Eve.bind (find_tells T n e hT hp h0 hr) ?_;have hg:=pg_lt e h0;have hpm : pageN T e ∈ T:=by rw [pageN_at e h0];exact List.getElem_mem _
 have hpl:=hp _ hpm;simp only [rd_page e h0,show (place e 0 0 T).toNat=pgN T e from rfl];refine Eve.ite (fun ht=>?_) (fun ht=>Eve.one.eq (by rw [if_neg ht]));rw [if_pos ht];obtain ⟨hu,-⟩:=(th_iff _ _).1 ht;refine Eve.ite (fun _=>?_) (fun h=>absurd (by omega) h);refine Eve.ite (fun _=>?_) (fun h=>absurd (by omega) h);refine Eve.ite (fun _=>?_) (fun h=>absurd (by omega) h)
 have he : F00.f (pageN T e).f1 (up e (pageN T e).f1 : Int) (wrap64 ((up e (pageN T e).f1 : Int)+1))=some ((pageN T e).f1.eraseIdx (up e (pageN T e).f1)):=by
  unfold F00.f;rw [if_pos (by omega),if_pos (by omega),if_pos (by rw [w64] <;> omega),if_pos (by omega),Int.toNat_natCast]
 rw [he];simp only [Option.bind_some];have hel : ((pageN T e).f1.eraseIdx (up e (pageN T e).f1)).length=(pageN T e).f1.length - 1:=by rw [List.length_eraseIdx,if_pos hu]
 unfold dropT cutP;rw [hel];refine Eve.ite (fun hc=>?_) (fun hc=>Eve.one.eq ?_)
 ·
  rw [if_pos ⟨by omega,hc.2⟩]
  have hd : Fy.f (T.set (pgN T e) ⟨(pageN T e).f0,(pageN T e).f1.eraseIdx (up e (pageN T e).f1)⟩) (place e 0 0 T) (wrap64 (place e 0 0 T+1))=some ((T.set (pgN T e) ⟨(pageN T e).f0,(pageN T e).f1.eraseIdx (up e (pageN T e).f1)⟩).eraseIdx (pgN T e)):=by
   unfold Fy.f;rw [List.length_set,if_pos (by omega),if_pos (by omega),if_pos (by rw [w64] <;> omega),if_pos (by omega)]
   rfl
  rw [hd];exact Eve.one.eq (by rw [erase_is,erase_is])
 rw [if_neg (fun h=>hc ⟨by omega,h.2⟩),erase_is]
def dropA (T : List IPag) (n : Int) (e : IEnt) : List IPag×Int×Int:=if tok T n=true∧eok e=true then (if th e (pageN T e).f1=true then (dropT T e,n,0) else (T,n,5)) else ([],0,1)
theorem cut_pages (T : List IPag) (j i : Nat) (p q : IPag) (h : q ∈ cutP T j i p) : q ∈ T∨q=⟨p.f0,p.f1.take i++p.f1.drop (i+1)⟩:=by
 have hs : ∀ q,q ∈ T.set j ⟨p.f0,p.f1.take i++p.f1.drop (i+1)⟩→q ∈ T∨q=⟨p.f0,p.f1.take i++p.f1.drop (i+1)⟩:=fun q hq=>List.mem_or_eq_of_mem_set hq;unfold cutP at h
 split at h
 ·
  rcases List.mem_append.1 h with h|h
  ·
   exact hs _ (List.mem_of_mem_take h)
  exact hs _ (List.mem_of_mem_drop h)
 exact hs _ h
theorem cut_length (T : List IPag) (j i : Nat) (p : IPag) : (cutP T j i p).length≤T.length:=by
 unfold cutP
 split
 ·
  simp only [List.length_append,List.length_take,List.length_drop,List.length_set];omega
 simp
theorem cut_row (l : List IEnt) (i : Nat) : (l.take i++l.drop (i+1)).length≤l.length:=by
 simp only [List.length_append,List.length_take,List.length_drop];omega
theorem dropA_small (T : List IPag) (n : Int) (e : IEnt) : (dropA T n e).1.length≤60 ∧ ∀ p ∈ (dropA T n e).1,p.f1.length≤4:=by
 unfold dropA
 split
 ·
  rename_i hk
  obtain ⟨h0,h1,-,hp⟩:=tok_facts hk.1
  split
  ·
   refine ⟨Nat.le_trans (cut_length _ _ _ _) h1,fun q hq=>?_⟩
   rcases cut_pages _ _ _ _ _ hq with h|rfl
   ·
    exact hp q h
   exact Nat.le_trans (cut_row _ _) (hp _ (by rw [pageN_at e h0];exact List.getElem_mem _))
  exact ⟨h1,hp⟩
 simp
theorem treeDrop_impl (T : List IPag) (n : Int) (e : IEnt) (hT : T.length≤1048576) (hf : (T.flatMap (·.f1)).length≤1048576) : Eve (fun k=>Fn.f k T n e.f0 e.f1) (dropA T n e):=by
 have hsm:=dropA_small T n e;simp only [Fn.f];refine Eve.bind (implOK_tells T n (by omega) hf) ?_;refine Eve.ite (fun hk=>?_) (fun hk=>Eve.one.eq (by unfold dropA;rw [if_neg (fun h=>hk h.1)]));rw [eok_impl];simp only [Option.bind_some];refine Eve.ite (fun he=>?_) (fun he=>Eve.one.eq (by unfold dropA;rw [if_neg (fun h=>he h.2)]));obtain ⟨h0,h60,hr,hp⟩:=tok_facts hk;refine Eve.bind (clone_tells T n (by omega) (fun p h=>by have:=hp p h;omega)) ?_;refine Eve.bind (drop_impl T n e (by omega) (fun p h=>by have:=hp p h;omega) h0 hr) ?_;have hA : dropA T n e=if th e (pageN T e).f1=true then (dropT T e,n,0) else (T,n,5):=by unfold dropA;exact if_pos ⟨hk,he⟩
 rw [hA] at hsm ⊢
 by_cases ht : th e (pageN T e).f1=true
 ·
  simp only [if_pos ht,if_true] at hsm ⊢
  exact Eve.bind (clone_tells (dropT T e) n (by have:=hsm.1;omega) (fun p h=>by have:=hsm.2 p h;omega)) Eve.one
 simp only [if_neg ht] at hsm ⊢;exact Eve.ite (fun h=>by cases h) (fun _=>Eve.one)
theorem put_out (T : List IPag) (n : Int) (j : Nat) (q : Int) (e : IEnt) (l : List IEnt) (hl : l.length≤4) :
  Fu.out T n j q (decide (l.length=4)) (rowP e l)=((F6.out T n j q (rowP e l)).2.2.1,(F6.out T n j q (rowP e l)).2.2.2,(F6.out T n j q (rowP e l)).1,(F6.out T n j q (rowP e l)).2.1):=by
 have hr:=rowP_length e l;unfold Fu.out F6.out
 by_cases h : l.length=4
 ·
  rw [if_pos (decide_eq_true h),if_neg (by omega),List.set_set,show (rowP e l).length / 2=2 by omega]
 rw [if_neg (by simp [h]),if_pos (by omega)]
theorem put_impl (T : List IPag) (n : Int) (e : IEnt) (hT : T.length≤1000000) (hp : ∀ p ∈ T,p.f1.length≤4) (h0 : 0<T.length) (hr : Rise (T.flatMap (·.f1))) (hn : 0≤n∧n≤1000000) :
  Eve (fun k=>Fu.f k T n e.f0 e.f1) ((putB T n e).2.2.1,(putB T n e).2.2.2,(putB T n e).1,(putB T n e).2.1):=by
 simp only [Fu.f];refine Eve.bind (find_tells T n e hT (fun p h=>by have:=hp p h;omega) h0 hr) ?_;have hg:=pg_lt e h0;have hin:=place_in e T 0 0 (by omega) (by omega);have hpm : pageN T e ∈ T:=by rw [pageN_at e h0];exact List.getElem_mem _
 have hpl:=hp _ hpm;have hul:=up_le e (pageN T e).f1;simp only [rd_page e h0,show (place e 0 0 T).toNat=pgN T e from rfl];refine Eve.ite (fun _=>?_) (fun h=>absurd ⟨hin.1,by omega,hT,by omega⟩ h);unfold putB;refine Eve.ite (fun ht=>Eve.one.eq (by rw [if_pos ht])) (fun ht=>?_);rw [if_neg ht];refine Eve.ite (fun hf=>Eve.one.eq (by rw [if_pos hf])) (fun hf=>?_);rw [if_neg hf];refine Eve.ite (fun _=>?_) (fun h=>absurd ⟨by omega,by omega,w64 (by omega) (by omega)⟩ h);rw [Int.toNat_natCast];exact Eve.one.eq (put_out T n (pgN T e) (pageN T e).f0 e (pageN T e).f1 hpl)
def putA (T : List IPag) (n : Int) (e : IEnt) : List IPag×Int×Int×Int:=if tok T n=true∧eok e=true then putB T n e else ([],0,0,1)
theorem treePut_impl (T : List IPag) (n : Int) (e : IEnt) (hT : T.length≤1048576) (hf : (T.flatMap (·.f1)).length≤1048576) : Eve (fun k=>Fs.f k T n e.f0 e.f1) (putA T n e):=by
 simp only [Fs.f];refine Eve.bind (implOK_tells T n (by omega) hf) ?_;refine Eve.ite (fun hk=>?_) (fun hk=>Eve.one.eq (by unfold putA;rw [if_neg (fun h=>hk h.1)]));rw [eok_impl];simp only [Option.bind_some];refine Eve.ite (fun he=>?_) (fun he=>Eve.one.eq (by unfold putA;rw [if_neg (fun h=>he h.2)]));obtain ⟨h0,h60,hr,hp⟩:=tok_facts hk;have hn:=tok_next hk;have hsm:=putB_small T n e h0 h60 hp;refine Eve.bind (clone_tells T n (by omega) (fun p h=>by have:=hp p h;omega)) ?_;refine Eve.bind (put_impl T n e (by omega) hp h0 hr (by omega)) ?_;refine Eve.bind (clone_tells (putB T n e).1 (putB T n e).2.1 (by have:=hsm.1;omega) (fun p h=>by have:=hsm.2 p h;omega)) ?_;exact Eve.one.eq (by unfold putA;rw [if_pos ⟨hk,he⟩])
theorem treePut_spec (T : List IPag) (n : Int) (e : IEnt) (hT : T.length≤1048576) (hp : ∀ p ∈ T,p.f1.length≤1048576) : Eve (fun k=>Fj.f k T n e.f0 e.f1) (putA T n e):=by
 have hj : ∀ v,v=([],0,0,1)→Eve (fun k=>Fj.j0 k true T n e.f0 e.f1) v:=fun v hv=>Eve.succ (by simp only [Fj.j0,if_true];exact Eve.one.eq hv.symm);simp only [Fj.f];refine Eve.bind (specOK_tells T n (by omega) (fun p h=>by have:=hp p h;omega)) ?_;refine Eve.ite (fun hk=>?_) (fun hk=>hj _ (by unfold putA;rw [if_neg (fun h=>hk h.1)]));rw [eok_spec];simp only [Option.bind_some]
 cases he : eok e with
 | false=>exact hj _ (by unfold putA;rw [if_neg (fun h=>by rw [he] at h;exact absurd h.2 (by decide))])
 | true =>
  obtain ⟨h0,h60,hr,hp4⟩:=tok_facts hk;have hn:=tok_next hk;have hsm:=putB_small T n e h0 h60 hp4;refine Eve.succ ?_;simp only [Fj.j0,Bool.not_true,Bool.false_eq_true,if_false];refine Eve.bind (put_spec T n e (by omega) (fun p h=>by have:=hp4 p h;omega) h0 (by omega)) ?_;refine Eve.bind (own_tells (putB T n e).1 (putB T n e).2.1 (by have:=hsm.1;omega) (fun p h=>by have:=hsm.2 p h;omega)) ?_;exact Eve.one.eq (by unfold putA;rw [if_pos ⟨hk,he⟩])
end Go.Proofs.Ytgifonogfgpjdaa.Pure
end
section
namespace Go.Proofs.Ytgifonogfgpjdaa.Q
open Go.RowKit Go.Proofs.YtgifonogfgpjdaaW.PrintWords Go.Proofs.YtgifonogfgpjdaaW.PrintLast Go.Proofs.YtgifonogfgpjdaaW.PrintMore
attribute [local go_sem] max2_int min2_int max_two min_two max_three min_three max_four min_four max2_str min2_str str_geq str_gtr str_leq
set_option linter.unusedVariables false
set_option linter.unusedSimpArgs false

def F0p.f (a0_0 : ByteArray) (a0_1 : ByteArray) (a0_2 : Bool) (a1 : ByteArray) : Option (Bool):=if ((Op.bytesLess a1.toList a0_0.toList)=true) then (some false) else (if a0_2=true then (some true) else (some (Op.bytesLess a1.toList a0_1.toList)))
set_option maxHeartbeats 8000000 in
set_option maxRecDepth 100000 in
theorem F0p.calls (a0_0 : ByteArray) (a0_1 : ByteArray) (a0_2 : Bool) (a1 : ByteArray) (r : Bool) (w : World) (h : F0p.f a0_0 a0_1 a0_2 a1=some r) :
  Calls Try.prog 51 #[.agg #[.string a0_0,.string a0_1,.bool a0_2],.string a1] w fun e w' => e = .returned (.bool r)∧Below w.heap.size w w':=by
 have hu32:=Try.underlying32;have HB:=zh (Below.refl w.heap.size w);have H : (if ((Op.bytesLess a1.toList a0_0.toList)=true) then (some false) else (if a0_2=true then (some true) else (some (Op.bytesLess a1.toList a0_1.toList))))=some r:=h;clear h
 by_cases c3 : ((Op.bytesLess a1.toList a0_0.toList)=true)
 ·
  rw [if_pos c3] at H
  have c3b0 : (Op.bytesLess a1.toList a0_0.toList)=true:=c3;clear c3;obtain rfl:=zU H
  go_enter Try.func51,Try.ntmps51
  go_wp2_with (first|((with_reducible refine zK (N:=2) rfl ?_);refine zI ?hg (N:=2) ?hd (cs:=#[.string a0_0,.string a0_1,.bool a0_2]) (t:=32) ?hr ?_;(case hd=>rfl);(case hg=>rfl);(case hr=>go_simp <;> rfl);intro gb371 hg w4 hbox hb;have BK371:=zh (hbox);have hH_:=cH jH hb hg;have GW371:=zh hH_.1;have GE371:=GW371;replace HB:=zh hH_.2;clear hb hbox hg hH_;obtain ⟨hcz5_0,hcz5_1,hcz5_2,hfz5_0,hfz5_1,hfz5_2⟩:=cB3 BK371.out))
  go_ret
  exact ⟨jG,jCp⟩
 rw [if_neg c3] at H;have c3b0 : (Op.bytesLess a1.toList a0_0.toList)=false:=by simpa using c3
 clear c3
 by_cases c6 : a0_2=true
 ·
  subst c6
  rw [if_pos rfl] at H;obtain rfl:=zU H
  go_enter Try.func51,Try.ntmps51
  go_wp2_with (first|((with_reducible refine zK (N:=2) rfl ?_);refine zI ?hg (N:=2) ?hd (cs:=#[.string a0_0,.string a0_1,.bool true]) (t:=32) ?hr ?_;(case hd=>rfl);(case hg=>rfl);(case hr=>go_simp <;> rfl);intro gb371 hg w7 hbox hb;have BK371:=zh (hbox);have hH_:=cH jH hb hg;have GW371:=zh hH_.1;have GE371:=GW371;replace HB:=zh hH_.2;clear hb hbox hg hH_;obtain ⟨hcz8_0,hcz8_1,hcz8_2,hfz8_0,hfz8_1,hfz8_2⟩:=cB3 BK371.out))
  go_ret
  exact ⟨jG,jCp⟩
 replace c6:=yb.mpr c6;subst c6;rw [if_neg (show ¬ (false=true) by decide)] at H;obtain rfl:=zU H
 go_enter Try.func51,Try.ntmps51
 go_wp2_with (first|((with_reducible refine zK (N:=2) rfl ?_);refine zI ?hg (N:=2) ?hd (cs:=#[.string a0_0,.string a0_1,.bool false]) (t:=32) ?hr ?_;(case hd=>rfl);(case hg=>rfl);(case hr=>go_simp <;> rfl);intro gb371 hg w9 hbox hb;have BK371:=zh (hbox);have hH_:=cH jH hb hg;have GW371:=zh hH_.1;have GE371:=GW371;replace HB:=zh hH_.2;clear hb hbox hg hH_;obtain ⟨hcz10_0,hcz10_1,hcz10_2,hfz10_0,hfz10_1,hfz10_2⟩:=cB3 BK371.out))
 go_ret
 exact ⟨jG,jCp⟩

end Go.Proofs.Ytgifonogfgpjdaa.Q
end
section
namespace Go.Proofs.Ytgifonogfgpjdaa.Q
open Go.RowKit Go.Proofs.YtgifonogfgpjdaaW.PrintWords Go.Proofs.YtgifonogfgpjdaaW.PrintLast Go.Proofs.YtgifonogfgpjdaaW.PrintMore
attribute [local go_sem] max2_int min2_int max_two min_two max_three min_three max_four min_four max2_str min2_str str_geq str_gtr str_leq   -- for this text's walks alone
set_option linter.unusedVariables false
set_option linter.unusedSimpArgs false

mutual
def F5.l0 : Nat→List (S28)→List Int→Int→Int→List (S60)→Int→ByteArray→ByteArray→Bool→Option ((List (S28))×List Int)
 | 0,_,_,_,_,_,_,_,_,_=>none
 | k+1,x6,x7,x8,x9,x373000,x373001,x374000,x374001,x374002=>if x9<(x373000.length : Int) then (if 0≤x9 then (if x9 > x8 then (if x374002=true then (F5.j1 k x6 x7 x8 x9 ((rd_T60 x373000 x9).f1) false x373000 x373001 x374000 x374001 x374002) else (if (((rd_T60 x373000 x9).f1).length : Int) > 0 then (if 0<(((rd_T60 x373000 x9).f1).length : Int) then (F5.j1 k x6 x7 x8 x9 ((rd_T60 x373000 x9).f1) (!(Op.bytesLess (((rd_T28 ((rd_T60 x373000 x9).f1) 0).f0).toList) x374001.toList)) x373000 x373001 x374000 x374001 x374002) else (none)) else (F5.j1 k x6 x7 x8 x9 ((rd_T60 x373000 x9).f1) false x373000 x373001 x374000 x374001 x374002))) else (F5.j1 k x6 x7 x8 x9 ((rd_T60 x373000 x9).f1) false x373000 x373001 x374000 x374001 x374002)) else (none)) else (some (x6,x7))
def F5.j1 : Nat→List (S28)→List Int→Int→Int→List (S28)→Bool→List (S60)→Int→ByteArray→ByteArray→Bool→Option ((List (S28))×List Int)
 | 0,_,_,_,_,_,_,_,_,_,_,_=>none
 | k+1,x6,x7,x8,x9,x10,x54,x373000,x373001,x374000,x374001,x374002=>if x54=true then (some (x6,x7)) else (if 0≤x9 then (if x9<(x373000.length : Int) then (if x7.length<17592186044416 then (F5.l1 k x6 (x7 ++ [(rd_T60 x373000 x9).f0]) x8 x9 x10 0 x373000 x373001 x374000 x374001 x374002) else (none)) else (none)) else (none))
def F5.l1 : Nat→List (S28)→List Int→Int→Int→List (S28)→Int→List (S60)→Int→ByteArray→ByteArray→Bool→Option ((List (S28))×List Int)
 | 0,_,_,_,_,_,_,_,_,_,_,_=>none
 | k+1,x6,x7,x8,x9,x10,x11,x373000,x373001,x374000,x374001,x374002=>if x11<(x10.length : Int) then (if 0≤x11 then ((F0p.f x374000 x374001 x374002 ((rd_T28 x10 x11).f0)).bind fun t388=>(if t388=true then (if x6.length<5864062014805 then (F5.l1 k (x6 ++ [(⟨(rd_T28 x10 x11).f0,(rd_T28 x10 x11).f1⟩ : S28)]) x7 x8 x9 x10 (wrap64 (x11+1)) x373000 x373001 x374000 x374001 x374002) else (none)) else (F5.l1 k x6 x7 x8 x9 x10 (wrap64 (x11+1)) x373000 x373001 x374000 x374001 x374002))) else (none)) else (F5.l0 k x6 x7 x8 (wrap64 (x9+1)) x373000 x373001 x374000 x374001 x374002)
end
def F5.f (k : Nat) (l0_0 : List (S60)) (a0_1 : Int) (a1_0 : ByteArray) (a1_1 : ByteArray) (a1_2 : Bool) : Option ((List (S28))×List Int):=(Fa.f k l0_0 a0_1 a1_0 (-1)).bind fun t380=>(F5.l0 k (([] : List (S28))) (([] : List Int)) t380 t380 l0_0 a0_1 a1_0 a1_1 a1_2)
theorem F5.mono_l : ∀ k,(∀ y0 y1 y2 y3 y4 y5 y6 y7 y8,LeO (F5.l0 k y0 y1 y2 y3 y4 y5 y6 y7 y8) (F5.l0 (k+1) y0 y1 y2 y3 y4 y5 y6 y7 y8))∧(∀ y0 y1 y2 y3 y4 y5 y6 y7 y8 y9 y10,LeO (F5.j1 k y0 y1 y2 y3 y4 y5 y6 y7 y8 y9 y10) (F5.j1 (k+1) y0 y1 y2 y3 y4 y5 y6 y7 y8 y9 y10))∧(∀ y0 y1 y2 y3 y4 y5 y6 y7 y8 y9 y10,LeO (F5.l1 k y0 y1 y2 y3 y4 y5 y6 y7 y8 y9 y10) (F5.l1 (k+1) y0 y1 y2 y3 y4 y5 y6 y7 y8 y9 y10))
 | 0=>⟨fun _ _ _ _ _ _ _ _ _ r h=>by simp [F5.l0] at h,fun _ _ _ _ _ _ _ _ _ _ _ r h=>by simp [F5.j1] at h,fun _ _ _ _ _ _ _ _ _ _ _ r h=>by simp [F5.l1] at h⟩
 | k+1=>by
  obtain ⟨ih0,ih1,ih2⟩:=F5.mono_l k;refine ⟨?_,?_,?_⟩
  ·
   intro y0 y1 y2 y3 y4 y5 y6 y7 y8
   unfold F5.l0
   repeat' first|(with_reducible first|exact ih0 _ _ _ _ _ _ _ _ _|exact ih1 _ _ _ _ _ _ _ _ _ _ _|exact ih2 _ _ _ _ _ _ _ _ _ _ _|exact Fa.mono _ _ _ _ _|exact zQ _|exact zN _|refine zP ?_ ?_|refine zO ?_ (fun _=>?_))|refine zP ?_ ?_|refine zO ?_ (fun _=>?_)
  ·
   intro y0 y1 y2 y3 y4 y5 y6 y7 y8 y9 y10
   unfold F5.j1
   repeat' first|(with_reducible first|exact ih0 _ _ _ _ _ _ _ _ _|exact ih1 _ _ _ _ _ _ _ _ _ _ _|exact ih2 _ _ _ _ _ _ _ _ _ _ _|exact Fa.mono _ _ _ _ _|exact zQ _|exact zN _|refine zP ?_ ?_|refine zO ?_ (fun _=>?_))|refine zP ?_ ?_|refine zO ?_ (fun _=>?_)
  intro y0 y1 y2 y3 y4 y5 y6 y7 y8 y9 y10;unfold F5.l1
  repeat' first|(with_reducible first|exact ih0 _ _ _ _ _ _ _ _ _|exact ih1 _ _ _ _ _ _ _ _ _ _ _|exact ih2 _ _ _ _ _ _ _ _ _ _ _|exact Fa.mono _ _ _ _ _|exact zQ _|exact zN _|refine zP ?_ ?_|refine zO ?_ (fun _=>?_))|refine zP ?_ ?_|refine zO ?_ (fun _=>?_)
theorem F5.mono : ∀ a0 a1 a2 a3 a4 k,LeO (F5.f k a0 a1 a2 a3 a4) (F5.f (k+1) a0 a1 a2 a3 a4):=by
 intro a0 a1 a2 a3 a4 k;obtain ⟨ih0,ih1,ih2⟩:=F5.mono_l k;unfold F5.f
 repeat' first|(with_reducible first|exact ih0 _ _ _ _ _ _ _ _ _|exact ih1 _ _ _ _ _ _ _ _ _ _ _|exact ih2 _ _ _ _ _ _ _ _ _ _ _|exact Fa.mono _ _ _ _ _|exact zQ _|exact zN _|refine zP ?_ ?_|refine zO ?_ (fun _=>?_))|refine zP ?_ ?_|refine zO ?_ (fun _=>?_)
def F5.T8 : Bool×List (List Nat×List Nat):=(true,[([],[]),([],[]),([0,1],[0,1]),([2],[2]),([3],[3]),([4,3],[3,4]),([5,3],[3,5]),([3,6],[3,6]),([7,3],[7]),([8],[8]),([9,8],[8,9]),([10,8],[8,10]),([8,11],[8,11]),([12,8],[12]),([13],[13]),([14,13],[13,14]),([15,13],[13,15]),([16,13],[13,16]),([13],[13]),([18,13],[13,18]),([17,19,13],[13,17,19]),([13,20],[13,20])])
def F5.B8 : List Nat:=[0,0,3,7,15,31,63,127,255,511,1023,2047,4095,8191,16383,32767,65535,131071,16383,278527,1048575,2097151]
theorem F5.tab8 : rtab .any (opsOf Try.f30 8)=F5.T8:=by kernel_rfl
theorem F5.bits8 : waitsOk F5.T8.2 F5.B8=true:=by kernel_rfl
set_option maxHeartbeats 8000000 in
set_option maxRecDepth 100000 in
theorem F5.calls (k : Nat) (A0_0 : Option Addr) (c0_0 : Nat) (l0_0 : List (S60)) (a0_1 : Int) (a1_0 : ByteArray) (a1_1 : ByteArray) (a1_2 : Bool) (r1 : List (S28)) (r2 : List Int) (w : World) (hr0_0 : Kd.C k60 w A0_0 l0_0.length l0_0) (hc0_0 : l0_0.length≤c0_0) (h : F5.f k l0_0 a0_1 a1_0 a1_1 a1_2=some (r1,r2)) :
  Calls Try.prog 30 #[.agg #[.slice A0_0 l0_0.length c0_0,.int .i64 a0_1],.agg #[.string a1_0,.string a1_1,.bool a1_2]] w fun e w' => ∃ v0_ v1_ : Value,e = .returned (.tuple #[v0_,v1_])∧Kd.R k28 28 w' w.heap.size (fun _=>True) v0_ r1∧Kd.R (Kd.int .i64) 3 w' w.heap.size (fun _=>True) v1_ r2∧Below w.heap.size w w':=by
 have hu25:=Try.underlying25;have hu32:=Try.underlying32;have hu28:=Try.underlying28;have HR0_0:=zh hr0_0;have HC0_0:=zh hc0_0;clear hr0_0 hc0_0;have HB:=zh (Below.refl w.heap.size w);have H : ((Fa.f k l0_0 a0_1 a1_0 (-1)).bind fun t380=>(F5.l0 k (([] : List (S28))) (([] : List Int)) t380 t380 l0_0 a0_1 a1_0 a1_1 a1_2))=some (r1,r2):=h;clear h;obtain ⟨y374,hy374⟩ : ∃ y_ : List (S28),y_=(([] : List (S28))):=⟨_,rfl⟩;replace H : ((Fa.f k l0_0 a0_1 a1_0 (-1)).bind fun t380=>(F5.l0 k y374 (([] : List Int)) t380 t380 l0_0 a0_1 a1_0 a1_1 a1_2))=some (r1,r2):=by first|(rw [hy374];with_reducible exact H)|(have H2_:=(Option.bind_some _ _).symm.trans H;rw [hy374];with_reducible exact H2_)|(have H2_:=(Option.bind_some _ _).symm.trans H;with_reducible exact H2_)|with_reducible exact H|(rw [hy374];exact H)|exact H
 have Ny374:=zh hy374;clear hy374;obtain ⟨y377,hy377⟩ : ∃ y_ : List Int,y_=(([] : List Int)):=⟨_,rfl⟩;replace H : ((Fa.f k l0_0 a0_1 a1_0 (-1)).bind fun t380=>(F5.l0 k y374 y377 t380 t380 l0_0 a0_1 a1_0 a1_1 a1_2))=some (r1,r2):=by first|(rw [hy377];with_reducible exact H)|(have H2_:=(Option.bind_some _ _).symm.trans H;rw [hy377];with_reducible exact H2_)|(have H2_:=(Option.bind_some _ _).symm.trans H;with_reducible exact H2_)|with_reducible exact H|(rw [hy377];exact H)|exact H
 have Ny377:=zh hy377;clear hy377;replace H:=zT.mp H;obtain ⟨t380,A30,H⟩:=H;have A3:=zh A30;clear A30;have H':=zh H;clear H
 go_enter Try.func30,Try.ntmps30
 go_wp2_with (first|((with_reducible refine zK (N:=2) rfl ?_);(try (refine yy (by rfl) ?_;dsimp only));refine zI ?hg (N:=2) ?hd (cs:=#[.slice A0_0 l0_0.length c0_0,.int .i64 a0_1]) (t:=25) ?hr ?_;(case hd=>rfl);(case hg=>rfl);(case hr=>go_simp <;> rfl);intro gb372 hg w4 hbox hb;have BK372:=zh (hbox);have hH_:=cH jH hb hg;have GW372:=zh hH_.1;have GE372:=GW372;replace HB:=zh hH_.2;clear hb hbox hg hH_)|((with_reducible refine zK (N:=3) rfl ?_);(try (refine yy (by rfl) ?_;dsimp only));refine zI ?hg (N:=3) ?hd (cs:=#[.string a1_0,.string a1_1,.bool a1_2]) (t:=32) ?hr ?_;(case hd=>rfl);(case hg=>rfl);(case hr=>go_simp <;> rfl);intro gb373 hg w5 hbox hb;have BK373:=zh (hbox);have hH_:=cH (by repeat (with_reducible first|exact HB.out|apply za|apply zb|apply zc|refine zd ?_ GE372.out)) hb hg;have GW373:=zh hH_.1;have GE373:=GW373;replace HB:=zh hH_.2;have NB372_373:=zh ((by rw [hg];exact yc (yi (g:=gb372) (o:=.cells #[.slice A0_0 l0_0.length c0_0,.int .i64 a0_1] 25 (0,0)) je) : gb372≠gb373));have NB373_372:=zh NB372_373.out.symm;replace BK372:=zh (cD BK372.out je hb);clear hb hbox hg hH_)|((with_reducible refine zK (N:=12) rfl ?_);(try (refine yy (by rfl) ?_;dsimp only));refine Kd.R_lit k28 _ 28 ?hg (N:=12) ?hd (xs:=([] : List (S28))) (inner:=[]) (ok:=fun _=>True) (okp:=fun _=>True) ?hr ?hp (fun _ hk=>hk) trivial (Below.refl _ _) (ye _) (by simp) ?_;(case hd=>rfl);(case hg=>rfl);(case hr=>go_simp <;> rfl);(case hp=>exact (Reps.none _ _));intro v375 w6 ho7 hb hg_ hnew_;clear hg_ hnew_;(first|rw [← Ny374.out] at ho7|(simp only [Int.reduceToNat] at ho7;rw [← Ny374.out] at ho7));have HO376:=zh (yx ho7 (zB jV));replace BK372:=zh (cD BK372.out je hb);replace BK373:=zh (cD BK373.out jl hb);replace HB:=zh (zC jV hb);clear hb ho7)|((with_reducible refine zK (N:=13) rfl ?_);(try (refine yy (by rfl) ?_;dsimp only));refine Kd.R_lit (Kd.int .i64) _ 3 ?hg (N:=13) ?hd (xs:=([] : List Int)) (inner:=[]) (ok:=fun _=>True) (okp:=fun _=>True) ?hr ?hp (fun _ hk=>hk) trivial (Below.refl _ _) (ye _) (by simp) ?_;(case hd=>rfl);(case hg=>rfl);(case hr=>go_simp <;> rfl);(case hp=>exact (Reps.none _ _));intro v378 w8 ho9 hb hg_ hnew_;clear hg_ hnew_;(first|rw [← Ny377.out] at ho9|(simp only [Int.reduceToNat] at ho9;rw [← Ny377.out] at ho9));replace HO376:=zh (yg jCq hb);have HO379:=zh (yx ho9 (zB jV));replace BK372:=zh (cD BK372.out je hb);replace BK373:=zh (cD BK373.out jl hb);replace HB:=zh (zC jV hb);clear hb ho9;have hnb10:=NB372_373.out;have hnc10:=NB373_372.out;obtain ⟨hcz11_0,hcz11_1,hfz11_0,hfz11_1⟩:=cB2 BK372.out;obtain ⟨hcz12_0,hcz12_1,hcz12_2,hfz12_0,hfz12_1,hfz12_2⟩:=cB3 BK373.out)|((with_reducible refine zJ (f:=39) rfl ?_);refine yj (some 18) rfl rfl Try.func39 jA rfl #[.agg #[.slice A0_0 l0_0.length c0_0,.int .i64 a0_1],.agg #[.string a1_0,.int .i64 (-1)]] rfl jF ?_;(with_reducible refine (Fa.calls k  _ _ l0_0 a0_1 a1_0 (-1) t380 _ ?side1 ?side2 A3.out).mono ?_);(case side1=>repeat (first|exact (Kd.C_below HR0_0.out HB.out)|(with_reducible refine Kd.C_alloc ?_ _)|(with_reducible refine Kd.C_drewN ?_ _)|(with_reducible refine Kd.C_drew ?_)));(case side2=>exact HC0_0.out);rintro e w13 ⟨rfl,hb⟩;refine ⟨_,rfl,?_⟩;replace HO376:=zh (yg jCq hb);replace HO379:=zh (yg jD1 hb);replace BK372:=zh (cD BK372.out je hb);replace BK373:=zh (cD BK373.out jl hb);replace HB:=zh (zC jV hb);(try clear hb);(try clear hb2);(try clear hk);(try clear hi)))
 go_loopg [6,7,9] k (fun kq v6 v7 v9 w' => ∃ (x6_1 : List (S28)) (x7_1 : List Int) (x9_1 : Int),v9 = .int .i64 x9_1∧Aside0 (F5.l0 kq x6_1 x7_1 t380 x9_1 l0_0 a0_1 a1_0 a1_1 a1_2=some (r1,r2))∧Aside0 (kq≤k)∧Aside0 (Kd.R k28 28 w' w.heap.size (fun _=>True) v6 x6_1)∧Aside0 (Kd.R (Kd.int .i64) 3 w' w.heap.size (fun _=>True) v7 x7_1)∧Aside0 (w'.heap[gb372]? = some (.cells #[(.slice A0_0 l0_0.length c0_0),.int .i64 a0_1] 25 (0,0)))∧Aside0 (w'.heap[gb373]? = some (.cells #[.string a1_0,.string a1_1,.bool a1_2] 32 (0,0)))∧Aside0 (Below w.heap.size w w'))
 case atStart=>exact ⟨(y374),(y377),(t380),jE,H',⟨ye _⟩,⟨jCq⟩,⟨jD1⟩,⟨je⟩,⟨jl⟩,⟨jV⟩⟩
 case round =>
  clear H'
  try clear c1
  try clear p2
  try clear c3 c10
  try clear hcz11_0 hcz11_1
  try clear hcz12_0 hcz12_1 hcz12_2
  try clear hfz11_0 hfz11_1
  try clear hfz12_0 hfz12_1 hfz12_2
  obtain ⟨x6_1,x7_1,x9_1,rfl,HA,HK1,HO_6,HO_7,BK372,BK373,HB⟩:=hrel
  cases gk with
  | zero=>exact absurd HA.out (by simp [F5.l0])
  | succ k1 =>
   have H:=HA.out;clear HA;simp only [F5.l0] at H
   by_cases c14 : x9_1<(l0_0.length : Int)
   ·
    rw [if_pos c14] at H
    have c14b0 : decide (x9_1<(l0_0.length : Int))=true:=decide_eq_true c14;clear c14
    by_cases c15 : 0≤x9_1
    ·
     rw [if_pos c15] at H
     have c15b0 : decide (0≤x9_1)=true:=decide_eq_true c15;clear c15;have HC16:=zh H;clear H;have hnb17:=NB372_373.out;have hnc17:=NB373_372.out;obtain ⟨hcz18_0,hcz18_1,hfz18_0,hfz18_1⟩:=cB2 BK372.out;have p381 : 0≤(x9_1 : Int):=zy jC;have q381 : x9_1<(l0_0.length : Int):=zy jC;obtain ⟨ad381,A381_1,c381_1,e381,hx381_0,hx381_1,hl381_1,hi381_1⟩:=at_T60 HR0_0.out x9_1 p381 q381
     cases e381
     replace hx381_0:=(HB.out.cell (zl w _ hx381_0)).trans hx381_0;replace hx381_1:=(HB.out.cell (zl w _ hx381_1)).trans hx381_1;have HR381_1:=zh hi381_1;have HC381_1:=zh hl381_1;clear hi381_1 hl381_1;replace p381:=eq_true p381;replace q381:=eq_true q381
     go_upto_region 8 with (fail)
     go_cut [54] (fun v54 wc => ∃ (kq : Nat) (x54_15 : Bool),v54 = .bool x54_15∧Aside0 (F5.j1 kq x6_1 x7_1 t380 x9_1 ((rd_T60 l0_0 x9_1).f1) x54_15 l0_0 a0_1 a1_0 a1_1 a1_2=some (r1,r2))∧Aside0 (kq≤k1)∧Aside0 (Kd.R k28 28 wc w.heap.size (fun _=>True) u6 x6_1)∧Aside0 (Kd.R (Kd.int .i64) 3 wc w.heap.size (fun _=>True) u7 x7_1)∧Aside0 (wc.heap[gb372]? = some (.cells #[(.slice (some ad381) l0_0.length c0_0),.int .i64 a0_1] 25 (0,0)))∧Aside0 (wc.heap[gb373]? = some (.cells #[.string a1_0,.string a1_1,.bool a1_2] 32 (0,0)))∧Aside0 (Below w.heap.size w wc))
     case first =>
      have H:=HC16.out;clear HC16
      by_cases c19 : x9_1 > t380
      ·
       rw [if_pos c19] at H
       have c19b0 : decide (t380<x9_1)=true:=decide_eq_true c19;clear c19;(first|rw [c19b0]|(simp only [zG,zH];rw [c19b0])|skip)
       by_cases c20 : a1_2=true
       ·
        subst c20
        rw [if_pos rfl] at H;have H':=zh H;clear H
        try go_wp2
        replace HO_6:=zh (zo HO_6.out);replace HO_7:=zh (zo HO_7.out);replace BK372:=zh (zf BK372.out);replace BK373:=zh (zf BK373.out);replace HB:=zh (zc HB.out);refine start_ (n:=22) (S:=fun w' => w'.cell? ⟨gb373,0,none⟩=some (.string a1_0)∧w'.cell? ⟨gb373,1,none⟩=some (.string a1_1)∧w'.cell? ⟨gb373,2,none⟩=some (.bool true)) (ds:=[]) (bm_ 0 22) jA rfl rfl ⟨(zz BK373.out 0).trans rfl,(zz BK373.out 1).trans rfl,(zz BK373.out 2).trans rfl⟩ (fun hHeld=>?_);refine with_tabW F5.tab8 F5.bits8 (fun HT_ HW_=>?_);generalize wr.drew=w21 at HO_6 HO_7 BK372 BK373 HB hHeld ⊢;refine pure_ (i:=0) (N:=some 33) (v:=?_) (a':=?_) (bm_ 1 22) rfl rfl (any_of HT_.out jA) (fun _ _ _ h=>h) (Or.inl ⟨by rfl,?_⟩) ?_ ?_;rotate_left;exact jb;rotate_left;exact jc
        refine pure_ (i:=1) (N:=some 34) (v:=?_) (a':=?_) (bm_ 2 22) rfl rfl (any_of HT_.out jA) (fun _ _ _ h=>h) (Or.inl ⟨by rfl,?_⟩) ?_ ?_;rotate_left;exact jb;rotate_left;exact jc
        refine pure_ (i:=2) (N:=some 35) (v:=?_) (a':=?_) (bm_ 3 22) rfl rfl (any_of HT_.out jA) (fun _ _ _ h=>h) (Or.inl ⟨by rfl,?_⟩) ?_ ?_;rotate_left;exact jb;rotate_left;exact jc
        refine pure_ (i:=3) (N:=some 36) (v:=?_) (a':=?_) (bm_ 4 22) rfl rfl (any_of HT_.out jA) (fun _ _ _ h=>h) (Or.inl ⟨by rfl,?_⟩) ?_ ?_;rotate_left;exact jb;rotate_left;exact jc
        refine pure_ (i:=4) (N:=some 37) (v:=?_) (a':=?_) (bm_ 5 22) rfl rfl (any_of HT_.out jA) (fun _ _ _ h=>h) (Or.inl ⟨by rfl,?_⟩) ?_ ?_;rotate_left;exact jb;rotate_left;exact jc
        refine take_ (i:=5) (N:=some 38) (v:=?_) (a':=?_) (bm_ 6 22) rfl rfl (yo HT_.out HW_.out jA) (fun _ _ _ h=>h) (Or.inl ⟨by rfl,?_⟩) hHeld ?_ ?_;rotate_left
        ·
         rintro w' ⟨s0,s1,s2⟩
         go_simp
         with_reducible rfl
        rotate_left
        exact jc
        refine pure_ (i:=6) (N:=some 39) (v:=?_) (a':=?_) (bm_ 7 22) rfl rfl (any_of HT_.out jA) (fun _ _ _ h=>h) (Or.inl ⟨by rfl,?_⟩) ?_ ?_;rotate_left;exact jb;rotate_left;exact jc
        refine pure_ (i:=7) (N:=some 40) (v:=?_) (a':=?_) (bm_ 8 22) rfl rfl (any_of HT_.out jA) (fun _ _ _ h=>h) (Or.inl ⟨by rfl,?_⟩) ?_ ?_;rotate_left;exact jb;rotate_left;exact jc
        refine pure_ (i:=8) (N:=some 41) (v:=?_) (a':=?_) (bm_ 9 22) rfl rfl (any_of HT_.out jA) (fun _ _ _ h=>h) (Or.inl ⟨by rfl,?_⟩) ?_ ?_;rotate_left;exact jb;rotate_left;exact jc
        refine pure_ (i:=9) (N:=some 42) (v:=undef) (a':=?_) (bm_ 10 22) rfl rfl (any_of HT_.out jA) (fun _ _ _ h=>h) (Or.inr ⟨by rfl,rfl⟩) ?_ ?_;rotate_left
        exact jc
        refine pure_ (i:=10) (N:=some 43) (v:=undef) (a':=?_) (bm_ 11 22) rfl rfl (any_of HT_.out jA) (fun _ _ _ h=>h) (Or.inr ⟨by rfl,rfl⟩) ?_ ?_;rotate_left
        exact jc
        refine pure_ (i:=11) (N:=some 44) (v:=undef) (a':=?_) (bm_ 12 22) rfl rfl (any_of HT_.out jA) (fun _ _ _ h=>h) (Or.inr ⟨by rfl,rfl⟩) ?_ ?_;rotate_left
        exact jc
        refine pure_ (i:=12) (N:=some 45) (v:=?_) (a':=?_) (bm_ 13 22) rfl rfl (any_of HT_.out jA) (fun _ _ _ h=>h) (Or.inl ⟨by rfl,?_⟩) ?_ ?_;rotate_left;exact jb;rotate_left;exact jc
        refine pure_ (i:=13) (N:=some 46) (v:=?_) (a':=?_) (bm_ 14 22) rfl rfl (any_of HT_.out jA) (fun _ _ _ h=>h) (Or.inl ⟨by rfl,?_⟩) ?_ ?_;rotate_left;exact jb;rotate_left;exact jc
        refine pure_ (i:=14) (N:=some 47) (v:=undef) (a':=?_) (bm_ 15 22) rfl rfl (any_of HT_.out jA) (fun _ _ _ h=>h) (Or.inr ⟨by rfl,rfl⟩) ?_ ?_;rotate_left
        exact jc
        refine pure_ (i:=15) (N:=some 48) (v:=undef) (a':=?_) (bm_ 16 22) rfl rfl (any_of HT_.out jA) (fun _ _ _ h=>h) (Or.inr ⟨by rfl,rfl⟩) ?_ ?_;rotate_left
        exact jc
        refine pure_ (i:=16) (N:=some 49) (v:=undef) (a':=?_) (bm_ 17 22) rfl rfl (any_of HT_.out jA) (fun _ _ _ h=>h) (Or.inr ⟨by rfl,rfl⟩) ?_ ?_;rotate_left
        exact jc
        refine pure_ (i:=17) (N:=some 50) (v:=undef) (a':=?_) (bm_ 18 22) rfl rfl (any_of HT_.out jA) (fun _ _ _ h=>h) (Or.inr ⟨by rfl,rfl⟩) ?_ ?_;rotate_left
        exact jc
        refine pure_ (i:=18) (N:=some 51) (v:=undef) (a':=?_) (bm_ 19 22) rfl rfl (any_of HT_.out jA) (fun _ _ _ h=>h) (Or.inr ⟨by rfl,rfl⟩) ?_ ?_;rotate_left
        exact jc
        refine pure_ (i:=19) (N:=some 52) (v:=undef) (a':=?_) (bm_ 20 22) rfl rfl (any_of HT_.out jA) (fun _ _ _ h=>h) (Or.inr ⟨by rfl,rfl⟩) ?_ ?_;rotate_left
        exact jc
        refine pure_ (i:=20) (N:=some 53) (v:=undef) (a':=?_) (bm_ 21 22) rfl rfl (any_of HT_.out jA) (fun _ _ _ h=>h) (Or.inr ⟨by rfl,rfl⟩) ?_ ?_;rotate_left
        exact jc
        refine pure_ (i:=21) (N:=some 54) (v:=?_) (a':=?_) (bm_ 22 22) rfl rfl (any_of HT_.out jA) (fun _ _ _ h=>h) (Or.inl ⟨by rfl,?_⟩) ?_ ?_;rotate_left;exact jb;rotate_left;exact jc
        refine done_ (done_of HT_.out jA) ?_
        try go_wp2
        go_meet
        case rel=>exact ⟨_,(false),jE,H',⟨jB4⟩,⟨jN⟩,⟨jJ⟩,⟨je⟩,⟨jl⟩,⟨jV⟩⟩
       replace c20:=yb.mpr c20;subst c20;rw [if_neg (show ¬ (false=true) by decide)] at H
       by_cases c22 : (((rd_T60 l0_0 x9_1).f1).length : Int) > 0
       ·
        rw [if_pos c22] at H
        have c22b0 : decide (0<(((rd_T60 l0_0 x9_1).f1).length : Int))=true:=decide_eq_true c22;have c22b1 : decide (0<((rd_T60 l0_0 x9_1).f1).length)=true:=decide_eq_true jD;clear c22
        by_cases c23 : 0<(((rd_T60 l0_0 x9_1).f1).length : Int)
        ·
         rw [if_pos c23] at H
         have c23b0 : decide (0<(((rd_T60 l0_0 x9_1).f1).length : Int))=true:=decide_eq_true c23;have c23b1 : decide (0<((rd_T60 l0_0 x9_1).f1).length)=true:=decide_eq_true jD;clear c23;have H':=zh H;clear H
         try go_wp2
         replace HO_6:=zh (zo HO_6.out);replace HO_7:=zh (zo HO_7.out);replace BK372:=zh (zf BK372.out);replace BK373:=zh (zf BK373.out);replace HB:=zh (zc HB.out);have p382 : 0≤(0 : Int):=jD;have q382 : 0<(((rd_T60 l0_0 x9_1).f1).length : Int):=zy jC;obtain ⟨ad382,e382,hx382_0,hx382_1⟩:=at_T28 HR381_1.out 0 p382 q382;have hw382_1:=hx382_1;(try rw [show ((0 : Int)).toNat=0 from rfl] at hw382_1);(try rw [show 0*2=0 from rfl] at hw382_1);(try rw [Addr.add_zero'] at hw382_1);have hw382_0:=hx382_0;(try rw [show ((0 : Int)).toNat=0 from rfl] at hw382_0);(try rw [show 0*2=0 from rfl] at hw382_0);(try rw [Addr.add_zero'] at hw382_0)
         cases e382
         have qi382 : (0<((rd_T60 l0_0 x9_1).f1).length)=True:=eq_true jD;(try rw [show ((0 : Int)).toNat=0 from rfl] at hx382_0);(try rw [show 0*2=0 from rfl] at hx382_0);(try rw [Addr.add_zero'] at hx382_0);(try rw [show ((0 : Int)).toNat=0 from rfl] at hx382_1);(try rw [show 0*2=0 from rfl] at hx382_1);(try rw [Addr.add_zero'] at hx382_1);replace hx382_0:=(HB.out.cell (zl w _ hx382_0)).trans hx382_0;replace hx382_1:=(HB.out.cell (zl w _ hx382_1)).trans hx382_1;replace p382:=eq_true p382;replace q382:=eq_true q382;refine start_ (n:=22) (S:=fun w' => w'.cell? ⟨gb373,0,none⟩=some (.string a1_0)∧w'.cell? ⟨gb373,1,none⟩=some (.string a1_1)∧w'.cell? ⟨gb373,2,none⟩=some (.bool false)∧w'.cell? ad382=some (.string ((rd_T28 ((rd_T60 l0_0 x9_1).f1) 0).f0))∧w'.cell? ⟨ad382.block,ad382.off+1,none⟩=some (.int .i64 ((rd_T28 ((rd_T60 l0_0 x9_1).f1) 0).f1))) (ds:=[]) (bm_ 0 22) jA rfl rfl ⟨(zz BK373.out 0).trans rfl,(zz BK373.out 1).trans rfl,(zz BK373.out 2).trans rfl,((HB.out.cell (zl w _ hw382_0)).trans hw382_0),((HB.out.cell (zl w _ hw382_1)).trans hw382_1)⟩ (fun hHeld=>?_);refine with_tabW F5.tab8 F5.bits8 (fun HT_ HW_=>?_);generalize wr.drew=w24 at HO_6 HO_7 BK372 BK373 HB hx382_0 hx382_1 hHeld ⊢;refine pure_ (i:=0) (N:=some 33) (v:=?_) (a':=?_) (bm_ 1 22) rfl rfl (any_of HT_.out jA) (fun _ _ _ h=>h) (Or.inl ⟨by rfl,?_⟩) ?_ ?_;rotate_left;exact jb;rotate_left;exact jc
         refine pure_ (i:=1) (N:=some 34) (v:=?_) (a':=?_) (bm_ 2 22) rfl rfl (any_of HT_.out jA) (fun _ _ _ h=>h) (Or.inl ⟨by rfl,?_⟩) ?_ ?_;rotate_left;exact jb;rotate_left;exact jc
         refine pure_ (i:=2) (N:=some 35) (v:=?_) (a':=?_) (bm_ 3 22) rfl rfl (any_of HT_.out jA) (fun _ _ _ h=>h) (Or.inl ⟨by rfl,?_⟩) ?_ ?_;rotate_left;exact jb;rotate_left;exact jc
         refine pure_ (i:=3) (N:=some 36) (v:=?_) (a':=?_) (bm_ 4 22) rfl rfl (any_of HT_.out jA) (fun _ _ _ h=>h) (Or.inl ⟨by rfl,?_⟩) ?_ ?_;rotate_left;exact jb;rotate_left;exact jc
         refine pure_ (i:=4) (N:=some 37) (v:=?_) (a':=?_) (bm_ 5 22) rfl rfl (any_of HT_.out jA) (fun _ _ _ h=>h) (Or.inl ⟨by rfl,?_⟩) ?_ ?_;rotate_left;exact jb;rotate_left;exact jc
         refine take_ (i:=5) (N:=some 38) (v:=?_) (a':=?_) (bm_ 6 22) rfl rfl (yo HT_.out HW_.out jA) (fun _ _ _ h=>h) (Or.inl ⟨by rfl,?_⟩) hHeld ?_ ?_;rotate_left
         ·
          rintro w' ⟨s0,s1,s2,s3,s4⟩
          go_simp
          with_reducible rfl
         rotate_left
         exact jc
         refine pure_ (i:=6) (N:=some 39) (v:=?_) (a':=?_) (bm_ 7 22) rfl rfl (any_of HT_.out jA) (fun _ _ _ h=>h) (Or.inl ⟨by rfl,?_⟩) ?_ ?_;rotate_left;exact jb;rotate_left;exact jc
         refine pure_ (i:=7) (N:=some 40) (v:=?_) (a':=?_) (bm_ 8 22) rfl rfl (any_of HT_.out jA) (fun _ _ _ h=>h) (Or.inl ⟨by rfl,?_⟩) ?_ ?_;rotate_left;exact jb;rotate_left;exact jc
         refine pure_ (i:=8) (N:=some 41) (v:=?_) (a':=?_) (bm_ 9 22) rfl rfl (any_of HT_.out jA) (fun _ _ _ h=>h) (Or.inl ⟨by rfl,?_⟩) ?_ ?_;rotate_left;exact jb;rotate_left;exact jc
         refine pure_ (i:=9) (N:=some 42) (v:=?_) (a':=?_) (bm_ 10 22) rfl rfl (any_of HT_.out jA) (fun _ _ _ h=>h) (Or.inl ⟨by rfl,?_⟩) ?_ ?_;rotate_left;exact jb;rotate_left;exact jc
         refine pure_ (i:=10) (N:=some 43) (v:=?_) (a':=?_) (bm_ 11 22) rfl rfl (any_of HT_.out jA) (fun _ _ _ h=>h) (Or.inl ⟨by rfl,?_⟩) ?_ ?_;rotate_left;exact jb;rotate_left;exact jc
         refine pure_ (i:=11) (N:=some 44) (v:=?_) (a':=?_) (bm_ 12 22) rfl rfl (any_of HT_.out jA) (fun _ _ _ h=>h) (Or.inl ⟨by rfl,?_⟩) ?_ ?_;rotate_left;exact jb;rotate_left;exact jc
         refine pure_ (i:=12) (N:=some 45) (v:=?_) (a':=?_) (bm_ 13 22) rfl rfl (any_of HT_.out jA) (fun _ _ _ h=>h) (Or.inl ⟨by rfl,?_⟩) ?_ ?_;rotate_left;exact jb;rotate_left;exact jc
         refine pure_ (i:=13) (N:=some 46) (v:=?_) (a':=?_) (bm_ 14 22) rfl rfl (any_of HT_.out jA) (fun _ _ _ h=>h) (Or.inl ⟨by rfl,?_⟩) ?_ ?_;rotate_left;exact jb;rotate_left;exact jc
         refine pure_ (i:=14) (N:=some 47) (v:=?_) (a':=?_) (bm_ 15 22) rfl rfl (any_of HT_.out jA) (fun _ _ _ h=>h) (Or.inl ⟨by rfl,?_⟩) ?_ ?_;rotate_left;exact jb;rotate_left;exact jc
         refine pure_ (i:=15) (N:=some 48) (v:=?_) (a':=?_) (bm_ 16 22) rfl rfl (any_of HT_.out jA) (fun _ _ _ h=>h) (Or.inl ⟨by rfl,?_⟩) ?_ ?_;rotate_left;exact jb;rotate_left;exact jc
         refine pure_ (i:=16) (N:=some 49) (v:=?_) (a':=?_) (bm_ 17 22) rfl rfl (any_of HT_.out jA) (fun _ _ _ h=>h) (Or.inl ⟨by rfl,?_⟩) ?_ ?_;rotate_left;exact jb;rotate_left;exact jc
         refine pure_ (i:=18) (N:=some 51) (v:=?_) (a':=?_) #[true,true,true,true,true,true,true,true,true,true,true,true,true,true,true,true,true,false,true,false,false,false] rfl rfl (any_of HT_.out jA) (fun _ _ _ h=>h) (Or.inl ⟨by rfl,?_⟩) ?_ ?_;rotate_left;exact jb;rotate_left;exact jc
         refine take_ (i:=17) (N:=some 50) (v:=?_) (a':=?_) (bm_ 19 22) rfl rfl (yo HT_.out HW_.out jA) (fun _ _ _ h=>h) (Or.inl ⟨by rfl,?_⟩) hHeld ?_ ?_;rotate_left
         ·
          rintro w' ⟨s0,s1,s2,s3,s4⟩
          go_simp
          with_reducible rfl
         rotate_left
         exact jc
         refine take_ (i:=19) (N:=some 52) (v:=?_) (a':=?_) (bm_ 20 22) rfl rfl (yo HT_.out HW_.out jA) (fun _ _ _ h=>h) (Or.inl ⟨by rfl,?_⟩) hHeld ?_ ?_;rotate_left
         ·
          rintro w' ⟨s0,s1,s2,s3,s4⟩
          go_simp
          with_reducible rfl
         rotate_left
         exact jc
         refine pure_ (i:=20) (N:=some 53) (v:=?_) (a':=?_) (bm_ 21 22) rfl rfl (any_of HT_.out jA) (fun _ _ _ h=>h) (Or.inl ⟨by rfl,?_⟩) ?_ ?_;rotate_left;exact jb;rotate_left;exact jc
         refine pure_ (i:=21) (N:=some 54) (v:=?_) (a':=?_) (bm_ 22 22) rfl rfl (any_of HT_.out jA) (fun _ _ _ h=>h) (Or.inl ⟨by rfl,?_⟩) ?_ ?_;rotate_left;exact jb;rotate_left;exact jc
         refine done_ (done_of HT_.out jA) ?_
         try go_wp2
         go_meet
         case rel=>exact ⟨_,(!(Op.bytesLess (((rd_T28 ((rd_T60 l0_0 x9_1).f1) 0).f0).toList) a1_1.toList)),jE,H',⟨jB4⟩,⟨jN⟩,⟨jJ⟩,⟨je⟩,⟨jl⟩,⟨jV⟩⟩
        rw [if_neg c23] at H;exact absurd H (by simp)
       rw [if_neg c22] at H;have c22b0 : decide (0<(((rd_T60 l0_0 x9_1).f1).length : Int))=false:=decide_eq_false c22;have c22b1 : decide (0<((rd_T60 l0_0 x9_1).f1).length)=false:=decide_eq_false jD;clear c22;have H':=zh H;clear H
       try go_wp2
       replace HO_6:=zh (zo HO_6.out);replace HO_7:=zh (zo HO_7.out);replace BK372:=zh (zf BK372.out);replace BK373:=zh (zf BK373.out);replace HB:=zh (zc HB.out);refine start_ (n:=22) (S:=fun w' => w'.cell? ⟨gb373,0,none⟩=some (.string a1_0)∧w'.cell? ⟨gb373,1,none⟩=some (.string a1_1)∧w'.cell? ⟨gb373,2,none⟩=some (.bool false)) (ds:=[]) (bm_ 0 22) jA rfl rfl ⟨(zz BK373.out 0).trans rfl,(zz BK373.out 1).trans rfl,(zz BK373.out 2).trans rfl⟩ (fun hHeld=>?_);refine with_tabW F5.tab8 F5.bits8 (fun HT_ HW_=>?_);generalize wr.drew=w25 at HO_6 HO_7 BK372 BK373 HB hHeld ⊢;refine pure_ (i:=0) (N:=some 33) (v:=?_) (a':=?_) (bm_ 1 22) rfl rfl (any_of HT_.out jA) (fun _ _ _ h=>h) (Or.inl ⟨by rfl,?_⟩) ?_ ?_;rotate_left;exact jb;rotate_left;exact jc
       refine pure_ (i:=1) (N:=some 34) (v:=?_) (a':=?_) (bm_ 2 22) rfl rfl (any_of HT_.out jA) (fun _ _ _ h=>h) (Or.inl ⟨by rfl,?_⟩) ?_ ?_;rotate_left;exact jb;rotate_left;exact jc
       refine pure_ (i:=2) (N:=some 35) (v:=?_) (a':=?_) (bm_ 3 22) rfl rfl (any_of HT_.out jA) (fun _ _ _ h=>h) (Or.inl ⟨by rfl,?_⟩) ?_ ?_;rotate_left;exact jb;rotate_left;exact jc
       refine pure_ (i:=3) (N:=some 36) (v:=?_) (a':=?_) (bm_ 4 22) rfl rfl (any_of HT_.out jA) (fun _ _ _ h=>h) (Or.inl ⟨by rfl,?_⟩) ?_ ?_;rotate_left;exact jb;rotate_left;exact jc
       refine pure_ (i:=4) (N:=some 37) (v:=?_) (a':=?_) (bm_ 5 22) rfl rfl (any_of HT_.out jA) (fun _ _ _ h=>h) (Or.inl ⟨by rfl,?_⟩) ?_ ?_;rotate_left;exact jb;rotate_left;exact jc
       refine take_ (i:=5) (N:=some 38) (v:=?_) (a':=?_) (bm_ 6 22) rfl rfl (yo HT_.out HW_.out jA) (fun _ _ _ h=>h) (Or.inl ⟨by rfl,?_⟩) hHeld ?_ ?_;rotate_left
       ·
        rintro w' ⟨s0,s1,s2⟩
        go_simp
        with_reducible rfl
       rotate_left
       exact jc
       refine pure_ (i:=6) (N:=some 39) (v:=?_) (a':=?_) (bm_ 7 22) rfl rfl (any_of HT_.out jA) (fun _ _ _ h=>h) (Or.inl ⟨by rfl,?_⟩) ?_ ?_;rotate_left;exact jb;rotate_left;exact jc
       refine pure_ (i:=7) (N:=some 40) (v:=?_) (a':=?_) (bm_ 8 22) rfl rfl (any_of HT_.out jA) (fun _ _ _ h=>h) (Or.inl ⟨by rfl,?_⟩) ?_ ?_;rotate_left;exact jb;rotate_left;exact jc
       refine pure_ (i:=8) (N:=some 41) (v:=?_) (a':=?_) (bm_ 9 22) rfl rfl (any_of HT_.out jA) (fun _ _ _ h=>h) (Or.inl ⟨by rfl,?_⟩) ?_ ?_;rotate_left;exact jb;rotate_left;exact jc
       refine pure_ (i:=9) (N:=some 42) (v:=?_) (a':=?_) (bm_ 10 22) rfl rfl (any_of HT_.out jA) (fun _ _ _ h=>h) (Or.inl ⟨by rfl,?_⟩) ?_ ?_;rotate_left;exact jb;rotate_left;exact jc
       refine pure_ (i:=10) (N:=some 43) (v:=?_) (a':=?_) (bm_ 11 22) rfl rfl (any_of HT_.out jA) (fun _ _ _ h=>h) (Or.inl ⟨by rfl,?_⟩) ?_ ?_;rotate_left;exact jb;rotate_left;exact jc
       refine pure_ (i:=11) (N:=some 44) (v:=?_) (a':=?_) (bm_ 12 22) rfl rfl (any_of HT_.out jA) (fun _ _ _ h=>h) (Or.inl ⟨by rfl,?_⟩) ?_ ?_;rotate_left;exact jb;rotate_left;exact jc
       refine pure_ (i:=12) (N:=some 45) (v:=?_) (a':=?_) (bm_ 13 22) rfl rfl (any_of HT_.out jA) (fun _ _ _ h=>h) (Or.inl ⟨by rfl,?_⟩) ?_ ?_;rotate_left;exact jb;rotate_left;exact jc
       refine pure_ (i:=13) (N:=some 46) (v:=?_) (a':=?_) (bm_ 14 22) rfl rfl (any_of HT_.out jA) (fun _ _ _ h=>h) (Or.inl ⟨by rfl,?_⟩) ?_ ?_;rotate_left;exact jb;rotate_left;exact jc
       refine pure_ (i:=14) (N:=some 47) (v:=undef) (a':=?_) (bm_ 15 22) rfl rfl (any_of HT_.out jA) (fun _ _ _ h=>h) (Or.inr ⟨by rfl,rfl⟩) ?_ ?_;rotate_left
       exact jc
       refine pure_ (i:=15) (N:=some 48) (v:=undef) (a':=?_) (bm_ 16 22) rfl rfl (any_of HT_.out jA) (fun _ _ _ h=>h) (Or.inr ⟨by rfl,rfl⟩) ?_ ?_;rotate_left
       exact jc
       refine pure_ (i:=16) (N:=some 49) (v:=undef) (a':=?_) (bm_ 17 22) rfl rfl (any_of HT_.out jA) (fun _ _ _ h=>h) (Or.inr ⟨by rfl,rfl⟩) ?_ ?_;rotate_left
       exact jc
       refine pure_ (i:=17) (N:=some 50) (v:=undef) (a':=?_) (bm_ 18 22) rfl rfl (any_of HT_.out jA) (fun _ _ _ h=>h) (Or.inr ⟨by rfl,rfl⟩) ?_ ?_;rotate_left
       exact jc
       refine pure_ (i:=18) (N:=some 51) (v:=undef) (a':=?_) (bm_ 19 22) rfl rfl (any_of HT_.out jA) (fun _ _ _ h=>h) (Or.inr ⟨by rfl,rfl⟩) ?_ ?_;rotate_left
       exact jc
       refine pure_ (i:=19) (N:=some 52) (v:=undef) (a':=?_) (bm_ 20 22) rfl rfl (any_of HT_.out jA) (fun _ _ _ h=>h) (Or.inr ⟨by rfl,rfl⟩) ?_ ?_;rotate_left
       exact jc
       refine pure_ (i:=20) (N:=some 53) (v:=undef) (a':=?_) (bm_ 21 22) rfl rfl (any_of HT_.out jA) (fun _ _ _ h=>h) (Or.inr ⟨by rfl,rfl⟩) ?_ ?_;rotate_left
       exact jc
       refine pure_ (i:=21) (N:=some 54) (v:=?_) (a':=?_) (bm_ 22 22) rfl rfl (any_of HT_.out jA) (fun _ _ _ h=>h) (Or.inl ⟨by rfl,?_⟩) ?_ ?_;rotate_left;exact jb;rotate_left;exact jc
       refine done_ (done_of HT_.out jA) ?_
       try go_wp2
       go_meet
       case rel=>exact ⟨_,(false),jE,H',⟨jB4⟩,⟨jN⟩,⟨jJ⟩,⟨je⟩,⟨jl⟩,⟨jV⟩⟩
      rw [if_neg c19] at H;have c19b0 : decide (t380<x9_1)=false:=decide_eq_false c19;clear c19;(first|rw [c19b0]|(simp only [zG,zH];rw [c19b0])|skip);have H':=zh H;clear H
      try go_wp2
      replace HO_6:=zh (zo HO_6.out);replace HO_7:=zh (zo HO_7.out);replace BK372:=zh (zf BK372.out);replace BK373:=zh (zf BK373.out);replace HB:=zh (zc HB.out);refine start_ (n:=22) (S:=fun w' => True) (ds:=[]) (bm_ 0 22) jA rfl rfl trivial (fun hHeld=>?_);refine with_tabW F5.tab8 F5.bits8 (fun HT_ HW_=>?_);generalize wr.drew=w26 at HO_6 HO_7 BK372 BK373 HB hHeld ⊢;refine pure_ (i:=0) (N:=some 33) (v:=?_) (a':=?_) (bm_ 1 22) rfl rfl (any_of HT_.out jA) (fun _ _ _ h=>h) (Or.inl ⟨by rfl,?_⟩) ?_ ?_;rotate_left;exact jb;rotate_left;exact jc
      refine pure_ (i:=1) (N:=some 34) (v:=?_) (a':=?_) (bm_ 2 22) rfl rfl (any_of HT_.out jA) (fun _ _ _ h=>h) (Or.inl ⟨by rfl,?_⟩) ?_ ?_;rotate_left;exact jb;rotate_left;exact jc
      refine pure_ (i:=2) (N:=some 35) (v:=?_) (a':=?_) (bm_ 3 22) rfl rfl (any_of HT_.out jA) (fun _ _ _ h=>h) (Or.inl ⟨by rfl,?_⟩) ?_ ?_;rotate_left;exact jb;rotate_left;exact jc
      refine pure_ (i:=3) (N:=some 36) (v:=?_) (a':=?_) (bm_ 4 22) rfl rfl (any_of HT_.out jA) (fun _ _ _ h=>h) (Or.inl ⟨by rfl,?_⟩) ?_ ?_;rotate_left;exact jb;rotate_left;exact jc
      refine pure_ (i:=4) (N:=some 37) (v:=undef) (a':=?_) (bm_ 5 22) rfl rfl (any_of HT_.out jA) (fun _ _ _ h=>h) (Or.inr ⟨by rfl,rfl⟩) ?_ ?_;rotate_left
      exact jc
      refine pure_ (i:=5) (N:=some 38) (v:=undef) (a':=?_) (bm_ 6 22) rfl rfl (any_of HT_.out jA) (fun _ _ _ h=>h) (Or.inr ⟨by rfl,rfl⟩) ?_ ?_;rotate_left
      exact jc
      refine pure_ (i:=6) (N:=some 39) (v:=undef) (a':=?_) (bm_ 7 22) rfl rfl (any_of HT_.out jA) (fun _ _ _ h=>h) (Or.inr ⟨by rfl,rfl⟩) ?_ ?_;rotate_left
      exact jc
      refine pure_ (i:=7) (N:=some 40) (v:=?_) (a':=?_) (bm_ 8 22) rfl rfl (any_of HT_.out jA) (fun _ _ _ h=>h) (Or.inl ⟨by rfl,?_⟩) ?_ ?_;rotate_left;exact jb;rotate_left;exact jc
      refine pure_ (i:=8) (N:=some 41) (v:=?_) (a':=?_) (bm_ 9 22) rfl rfl (any_of HT_.out jA) (fun _ _ _ h=>h) (Or.inl ⟨by rfl,?_⟩) ?_ ?_;rotate_left;exact jb;rotate_left;exact jc
      refine pure_ (i:=9) (N:=some 42) (v:=undef) (a':=?_) (bm_ 10 22) rfl rfl (any_of HT_.out jA) (fun _ _ _ h=>h) (Or.inr ⟨by rfl,rfl⟩) ?_ ?_;rotate_left
      exact jc
      refine pure_ (i:=10) (N:=some 43) (v:=undef) (a':=?_) (bm_ 11 22) rfl rfl (any_of HT_.out jA) (fun _ _ _ h=>h) (Or.inr ⟨by rfl,rfl⟩) ?_ ?_;rotate_left
      exact jc
      refine pure_ (i:=11) (N:=some 44) (v:=undef) (a':=?_) (bm_ 12 22) rfl rfl (any_of HT_.out jA) (fun _ _ _ h=>h) (Or.inr ⟨by rfl,rfl⟩) ?_ ?_;rotate_left
      exact jc
      refine pure_ (i:=12) (N:=some 45) (v:=?_) (a':=?_) (bm_ 13 22) rfl rfl (any_of HT_.out jA) (fun _ _ _ h=>h) (Or.inl ⟨by rfl,?_⟩) ?_ ?_;rotate_left;exact jb;rotate_left;exact jc
      refine pure_ (i:=13) (N:=some 46) (v:=?_) (a':=?_) (bm_ 14 22) rfl rfl (any_of HT_.out jA) (fun _ _ _ h=>h) (Or.inl ⟨by rfl,?_⟩) ?_ ?_;rotate_left;exact jb;rotate_left;exact jc
      refine pure_ (i:=14) (N:=some 47) (v:=undef) (a':=?_) (bm_ 15 22) rfl rfl (any_of HT_.out jA) (fun _ _ _ h=>h) (Or.inr ⟨by rfl,rfl⟩) ?_ ?_;rotate_left
      exact jc
      refine pure_ (i:=15) (N:=some 48) (v:=undef) (a':=?_) (bm_ 16 22) rfl rfl (any_of HT_.out jA) (fun _ _ _ h=>h) (Or.inr ⟨by rfl,rfl⟩) ?_ ?_;rotate_left
      exact jc
      refine pure_ (i:=16) (N:=some 49) (v:=undef) (a':=?_) (bm_ 17 22) rfl rfl (any_of HT_.out jA) (fun _ _ _ h=>h) (Or.inr ⟨by rfl,rfl⟩) ?_ ?_;rotate_left
      exact jc
      refine pure_ (i:=17) (N:=some 50) (v:=undef) (a':=?_) (bm_ 18 22) rfl rfl (any_of HT_.out jA) (fun _ _ _ h=>h) (Or.inr ⟨by rfl,rfl⟩) ?_ ?_;rotate_left
      exact jc
      refine pure_ (i:=18) (N:=some 51) (v:=undef) (a':=?_) (bm_ 19 22) rfl rfl (any_of HT_.out jA) (fun _ _ _ h=>h) (Or.inr ⟨by rfl,rfl⟩) ?_ ?_;rotate_left
      exact jc
      refine pure_ (i:=19) (N:=some 52) (v:=undef) (a':=?_) (bm_ 20 22) rfl rfl (any_of HT_.out jA) (fun _ _ _ h=>h) (Or.inr ⟨by rfl,rfl⟩) ?_ ?_;rotate_left
      exact jc
      refine pure_ (i:=20) (N:=some 53) (v:=undef) (a':=?_) (bm_ 21 22) rfl rfl (any_of HT_.out jA) (fun _ _ _ h=>h) (Or.inr ⟨by rfl,rfl⟩) ?_ ?_;rotate_left
      exact jc
      refine pure_ (i:=21) (N:=some 54) (v:=?_) (a':=?_) (bm_ 22 22) rfl rfl (any_of HT_.out jA) (fun _ _ _ h=>h) (Or.inl ⟨by rfl,?_⟩) ?_ ?_;rotate_left;exact jb;rotate_left;exact jc
      refine done_ (done_of HT_.out jA) ?_
      try go_wp2
      go_meet
      case rel=>exact ⟨_,(false),jE,H',⟨jB4⟩,⟨jN⟩,⟨jJ⟩,⟨je⟩,⟨jl⟩,⟨jV⟩⟩
     case rest =>
      clear HC16
      try clear c1 c2
      try clear p2
      try clear p3
      try clear q3
      try clear hx3
      try clear qi3
      try clear c19 c19b0 c20 c22 c22b0 c22b1 c23 c23b0 c23b1
      try clear hx382_0
      try clear hx382_1
      try clear p382
      try clear q382
      obtain ⟨kq,x54_15,rfl,HA,HJ15,HO_6,HO_7,BK372,BK373,HB⟩:=hcut
      cases kq with
      | zero=>exact absurd HA.out (by simp [F5.j1])
      | succ kj15 =>
       have H:=HA.out;clear HA;simp only [F5.j1] at H
       by_cases c27 : x54_15=true
       ·
        subst c27
        rw [if_pos rfl] at H;simp only [Option.some.injEq,Prod.mk.injEq] at H;obtain ⟨rfl,rfl⟩:=H
        go_wp2
        go_ret2
        exact ⟨_,_,jG,jN,jJ,jV⟩
       replace c27:=yb.mpr c27;subst c27;rw [if_neg (show ¬ (false=true) by decide)] at H
       by_cases c28 : 0≤x9_1
       ·
        rw [if_pos c28] at H
        have c28b0 : decide (0≤x9_1)=true:=decide_eq_true c28;clear c28
        by_cases c29 : x9_1<(l0_0.length : Int)
        ·
         rw [if_pos c29] at H
         have c29b0 : decide (x9_1<(l0_0.length : Int))=true:=decide_eq_true c29;clear c29
         by_cases c30 : x7_1.length<17592186044416
         ·
          rw [if_pos c30] at H
          have LMc30:=zh c30;clear c30;obtain ⟨y384,hy384⟩ : ∃ y_ : List Int,y_=(x7_1 ++ [(rd_T60 l0_0 x9_1).f0]):=⟨_,rfl⟩;replace H : (F5.l1 kj15 x6_1 y384 t380 x9_1 ((rd_T60 l0_0 x9_1).f1) 0 l0_0 a0_1 a1_0 a1_1 a1_2)=some (r1,r2):=by first|(rw [hy384];with_reducible exact H)|(have H2_:=(Option.bind_some _ _).symm.trans H;rw [hy384];with_reducible exact H2_)|(have H2_:=(Option.bind_some _ _).symm.trans H;with_reducible exact H2_)|with_reducible exact H|(rw [hy384];exact H)|exact H
          have Ny384:=zh hy384;clear hy384;have H':=zh H;clear H;have hnb31:=NB372_373.out;have hnc31:=NB373_372.out;obtain ⟨hcz32_0,hcz32_1,hfz32_0,hfz32_1⟩:=cB2 BK372.out;have p383 : 0≤(x9_1 : Int):=zy jC;have q383 : x9_1<(l0_0.length : Int):=zy jC;obtain ⟨ad383,A383_1,c383_1,e383,hx383_0,hx383_1,hl383_1,hi383_1⟩:=at_T60 HR0_0.out x9_1 p383 q383;obtain rfl : ad381=ad383:=(by injection e383);replace hx383_0:=(HB.out.cell (zl w _ hx383_0)).trans hx383_0;replace hx383_1:=(HB.out.cell (zl w _ hx383_1)).trans hx383_1;have HR383_1:=zh hi383_1;have HC383_1:=zh hl383_1;clear hi383_1 hl383_1;replace p383:=eq_true p383;replace q383:=eq_true q383
          go_wp2_with (first|((with_reducible refine yA (b:=.append) (xs:=#[.tmp 55,.tmp 62]) rfl ?_);(try (refine yy (by rfl) ?_;dsimp only));at_builtin;refine Kd.R_append (Kd.int .i64) (w0:=w) w.heap.size rfl (.tmp 55) (.tmp 62) 34 3 (.int .i64 0) 8 rfl Try.underlying34 info3 rfl jB jD u7 x7_1 ((rd_T60 l0_0 x9_1).f0) [.int .i64 ((rd_T60 l0_0 x9_1).f0)] (fun _=>True) (fun _=>False) rfl rfl ?aP (fun _ hk=>hk.elim) ?aF ?aO ?aB ?aS ?aL ?_;(case aP=>exact rfl);(case aB=>exact jV);(case aF=>exact (fun _ _=>trivial));(case aO=>exact jJ);(case aS=>exact (zB jV));(case aL=>have:=LMc30.out;omega);intro v385 w33 ho hb hg hat;rw [← Ny384.out] at ho;replace HO_6:=zh (Kd.R_over' jN (Kd.R_typed jJ) jB hg);replace BK372:=zh (yv (g:=gb372) (o:=.cells #[.slice (some ad381) l0_0.length c0_0,.int .i64 a0_1] 25 (0,0)) je hg (Kd.R_ne HO_7.out BK372.out jB));replace BK373:=zh (yv (g:=gb373) (o:=.cells #[.string a1_0,.string a1_1,.bool a1_2] 32 (0,0)) jl hg (Kd.R_ne HO_7.out BK373.out jB));replace HB:=zh (hb);have HO386:=zh (ho);clear HO_7 ho hb hg hat))
          go_loopg [6,11] kj15 (fun kq v6 v11 w' => ∃ (x6_3 : List (S28)) (x11_3 : Int),v11 = .int .i64 x11_3∧Aside0 (F5.l1 kq x6_3 y384 t380 x9_1 ((rd_T60 l0_0 x9_1).f1) x11_3 l0_0 a0_1 a1_0 a1_1 a1_2=some (r1,r2))∧Aside0 (kq≤kj15)∧Aside0 (Kd.R k28 28 w' w.heap.size (fun _=>True) v6 x6_3)∧Aside0 (Kd.R (Kd.int .i64) 3 w' w.heap.size (fun _=>True) v385 y384)∧Aside0 (w'.heap[gb372]? = some (.cells #[(.slice (some ad381) l0_0.length c0_0),.int .i64 a0_1] 25 (0,0)))∧Aside0 (w'.heap[gb373]? = some (.cells #[.string a1_0,.string a1_1,.bool a1_2] 32 (0,0)))∧Aside0 (Below w.heap.size w w'))
          case atStart=>exact ⟨(x6_1),(0),jE,H',⟨ye _⟩,⟨jN⟩,⟨by (with_reducible repeat (first|apply zm|apply zn|apply zo));exact HO386.out⟩,⟨je⟩,⟨jl⟩,⟨jV⟩⟩
          case round =>
           clear H'
           try clear c1 c2
           try clear p2
           try clear c3
           try clear p3
           try clear q3
           try clear hx3
           try clear qi3
           try clear c19 c19b0 c20 c22 c22b0 c22b1 c23 c23b0 c23b1 c27 c28 c28b0 c29 c29b0 c30 c31
           try clear hcz32_0 hcz32_1 hfz32_0 hfz32_1
           try clear hx382_0
           try clear hx382_1
           try clear hx383_0
           try clear hx383_1
           try clear p2
           try clear p3
           try clear p382
           try clear p383
           try clear q3
           try clear q382
           try clear q383
           obtain ⟨x6_3,x11_3,rfl,HA,HK3,HO_6,HO_7,BK372,BK373,HB⟩:=hrel
           cases gk with
           | zero=>exact absurd HA.out (by simp [F5.l1])
           | succ k3 =>
            have H:=HA.out;clear HA;simp only [F5.l1] at H
            by_cases c34 : x11_3<(((rd_T60 l0_0 x9_1).f1).length : Int)
            ·
             rw [if_pos c34] at H
             have c34b0 : decide (x11_3<(((rd_T60 l0_0 x9_1).f1).length : Int))=true:=decide_eq_true c34;clear c34
             by_cases c35 : 0≤x11_3
             ·
              rw [if_pos c35] at H
              have c35b0 : decide (0≤x11_3)=true:=decide_eq_true c35;clear c35;replace H:=zT.mp H;obtain ⟨t388,A360,H⟩:=H;have A36:=zh A360;clear A360
              by_cases c37 : t388=true
              ·
               subst c37
               rw [if_pos rfl] at H
               by_cases c38 : x6_3.length<5864062014805
               ·
                rw [if_pos c38] at H
                have LMc38:=zh c38;clear c38;obtain ⟨y390,hy390⟩ : ∃ y_ : List (S28),y_=(x6_3 ++ [(⟨(rd_T28 ((rd_T60 l0_0 x9_1).f1) x11_3).f0,(rd_T28 ((rd_T60 l0_0 x9_1).f1) x11_3).f1⟩ : S28)]):=⟨_,rfl⟩;replace H : (F5.l1 k3 y390 y384 t380 x9_1 ((rd_T60 l0_0 x9_1).f1) (wrap64 (x11_3+1)) l0_0 a0_1 a1_0 a1_1 a1_2)=some (r1,r2):=by first|(rw [hy390];with_reducible exact H)|(have H2_:=(Option.bind_some _ _).symm.trans H;rw [hy390];with_reducible exact H2_)|(have H2_:=(Option.bind_some _ _).symm.trans H;with_reducible exact H2_)|with_reducible exact H|(rw [hy390];exact H)|exact H
                have Ny390:=zh hy390;clear hy390;have H':=zh H;clear H
                try go_wp2
                replace HO_6:=zh (zo HO_6.out);replace HO_7:=zh (zo HO_7.out);replace BK372:=zh (zf BK372.out);replace BK373:=zh (zf BK373.out);replace HB:=zh (zc HB.out);have p387 : 0≤(x11_3 : Int):=zy jC;have q387 : x11_3<(((rd_T60 l0_0 x9_1).f1).length : Int):=zy jC;obtain ⟨ad387,e387,hx387_0,hx387_1⟩:=at_T28 HR381_1.out x11_3 p387 q387;have hw387_1:=hx387_1;have hw387_0:=hx387_0
                cases e387
                replace hx387_0:=(HB.out.cell (zl w _ hx387_0)).trans hx387_0;replace hx387_1:=(HB.out.cell (zl w _ hx387_1)).trans hx387_1;replace p387:=eq_true p387;replace q387:=eq_true q387;refine start_ (n:=7) (S:=fun w' => w'.cell? ⟨gb373,0,none⟩=some (.string a1_0)∧w'.cell? ⟨gb373,1,none⟩=some (.string a1_1)∧w'.cell? ⟨gb373,2,none⟩=some (.bool a1_2)∧w'.cell? (ad387.add ((x11_3).toNat*2))=some (.string ((rd_T28 ((rd_T60 l0_0 x9_1).f1) x11_3).f0))∧w'.cell? ⟨(ad387.add ((x11_3).toNat*2)).block,(ad387.add ((x11_3).toNat*2)).off+1,none⟩=some (.int .i64 ((rd_T28 ((rd_T60 l0_0 x9_1).f1) x11_3).f1))) (ds:=[]) (bm_ 0 7) jA rfl rfl ⟨(zz BK373.out 0).trans rfl,(zz BK373.out 1).trans rfl,(zz BK373.out 2).trans rfl,((HB.out.cell (zl w _ hw387_0)).trans hw387_0),((HB.out.cell (zl w _ hw387_1)).trans hw387_1)⟩ (fun hHeld=>?_);generalize wr.drew=w39 at HO_6 HO_7 BK372 BK373 HB hx387_0 hx387_1 hHeld ⊢;refine pure_ (i:=1) (N:=some 71) (v:=?_) (a':=?_) #[false,true,false,false,false,false,false] rfl rfl jA (fun _ _ _ h=>h) (Or.inl ⟨by rfl,?_⟩) ?_ ?_;rotate_left;exact jb;rotate_left;exact jc
                refine pure_ (i:=2) (N:=some 72) (v:=?_) (a':=?_) #[false,true,true,false,false,false,false] rfl rfl jA (fun _ _ _ h=>h) (Or.inl ⟨by rfl,?_⟩) ?_ ?_;rotate_left;exact jb;rotate_left;exact jc
                refine pure_ (i:=3) (N:=some 73) (v:=?_) (a':=?_) #[false,true,true,true,false,false,false] rfl rfl jA (fun _ _ _ h=>h) (Or.inl ⟨by rfl,?_⟩) ?_ ?_;rotate_left;exact jb;rotate_left;exact jc
                refine pure_ (i:=4) (N:=some 74) (v:=?_) (a':=?_) #[false,true,true,true,true,false,false] rfl rfl jA (fun _ _ _ h=>h) (Or.inl ⟨by rfl,?_⟩) ?_ ?_;rotate_left;exact jb;rotate_left;exact jc
                refine take_ (i:=0) (N:=some 70) (v:=?_) (a':=?_) (bm_ 5 7) rfl rfl jA (fun _ _ _ h=>h) (Or.inl ⟨by rfl,?_⟩) hHeld ?_ ?_;rotate_left
                ·
                 rintro w' ⟨s0,s1,s2,s3,s4⟩
                 go_simp
                 with_reducible rfl
                rotate_left
                exact jc
                refine take_ (i:=5) (N:=some 75) (v:=?_) (a':=?_) (bm_ 6 7) rfl rfl jA (fun _ _ _ h=>h) (Or.inl ⟨by rfl,?_⟩) hHeld ?_ ?_;rotate_left
                ·
                 rintro w' ⟨s0,s1,s2,s3,s4⟩
                 go_simp
                 with_reducible rfl
                rotate_left
                exact jc
                refine one_ (i:=6) (N:=some 76) (bm_ 7 7) rfl rfl jA jB (fun K hK=>?_);refine goes_ Try.func51 jA rfl #[.agg #[.string a1_0,.string a1_1,.bool a1_2],.string ((rd_T28 ((rd_T60 l0_0 x9_1).f1) x11_3).f0)] (by rfl) rfl rfl jF ?_
                with_reducible refine (F0p.calls  a1_0 a1_1 a1_2 ((rd_T28 ((rd_T60 l0_0 x9_1).f1) x11_3).f0) true _ A36.out).mono ?_
                rintro e w40 ⟨rfl,hb⟩;refine ⟨_,rfl,?_⟩;replace HO_6:=zh (yg jN hb);replace HO_7:=zh (yg jJ hb);replace BK372:=zh (cD BK372.out je hb);replace BK373:=zh (cD BK373.out jl hb);replace HB:=zh (zC jV hb);(try clear hb);(try clear hb2);(try clear hk);(try clear hi);refine hK.out _ _ ⟨(zz BK373.out 0).trans rfl,(zz BK373.out 1).trans rfl,(zz BK373.out 2).trans rfl,((HB.out.cell (zl w _ hw387_0)).trans hw387_0),((HB.out.cell (zl w _ hw387_1)).trans hw387_1)⟩ (fun hHeld=>?_);clear hK K;refine norm_ (a':=?_) ?_ ?_;rotate_left
                ·
                 show Act.put _ (some 76) _=_
                 simp only [Act.put,zi,zj,zk,zG,zH]
                 rfl
                refine done_ jA ?_;have p389 : 0≤(x11_3 : Int):=zy jC;have q389 : x11_3<(((rd_T60 l0_0 x9_1).f1).length : Int):=zy jC;obtain ⟨ad389,e389,hx389_0,hx389_1⟩:=at_T28 HR381_1.out x11_3 p389 q389;obtain rfl : ad387=ad389:=(by injection e389);replace hx389_0:=(HB.out.cell (zl w _ hx389_0)).trans hx389_0;replace hx389_1:=(HB.out.cell (zl w _ hx389_1)).trans hx389_1;replace p389:=eq_true p389;replace q389:=eq_true q389
                try go_wp2_with (first|((with_reducible refine yA (b:=.append) (xs:=#[.tmp 77,.tmp 82]) rfl ?_);(try (refine yy (by rfl) ?_;dsimp only));at_builtin;refine Kd.R_append k28 (w0:=w) w.heap.size rfl (.tmp 77) (.tmp 82) 33 28 (.agg #[(.string ⟨#[]⟩),(.int .i64 0)]) 24 rfl Try.underlying33 info28 rfl jB jD u6 x6_3 (⟨(rd_T28 ((rd_T60 l0_0 x9_1).f1) x11_3).f0,(rd_T28 ((rd_T60 l0_0 x9_1).f1) x11_3).f1⟩ : S28) [.string ((rd_T28 ((rd_T60 l0_0 x9_1).f1) x11_3).f0),.int .i64 ((rd_T28 ((rd_T60 l0_0 x9_1).f1) x11_3).f1)] (fun _=>True) (fun _=>False) rfl rfl ?aP (fun _ hk=>hk.elim) ?aF ?aO ?aB ?aS ?aL ?_;(case aP=>exact k28_mkM _ _ _ (⟨(rd_T28 ((rd_T60 l0_0 x9_1).f1) x11_3).f0,(rd_T28 ((rd_T60 l0_0 x9_1).f1) x11_3).f1⟩ : S28));(case aB=>exact jV);(case aF=>exact (fun _ _=>trivial));(case aO=>exact jN);(case aS=>exact (zB jV));(case aL=>have:=LMc38.out;omega);intro v391 w41 ho hb hg hat;rw [← Ny390.out] at ho;replace HO_7:=zh (Kd.R_over' jJ (Kd.R_typed jN) jB hg);replace BK372:=zh (yv (g:=gb372) (o:=.cells #[.slice (some ad381) l0_0.length c0_0,.int .i64 a0_1] 25 (0,0)) je hg (Kd.R_ne HO_6.out BK372.out jB));replace BK373:=zh (yv (g:=gb373) (o:=.cells #[.string a1_0,.string a1_1,.bool a1_2] 32 (0,0)) jl hg (Kd.R_ne HO_6.out BK373.out jB));replace HB:=zh (hb);have HO392:=zh (ho);clear HO_6 ho hb hg hat))
                go_roundg k3
                case measure=>have:=HK1.out;have:=HJ15.out;have:=HK3.out;omega
                case rel=>exact ⟨(y390),(wrap64 (x11_3+1)),jE,H',⟨jCr⟩,⟨by (with_reducible repeat (first|apply zm|apply zn|apply zo));exact HO392.out⟩,⟨jJ⟩,⟨je⟩,⟨jl⟩,⟨jV⟩⟩
               rw [if_neg c38] at H;exact absurd H (by simp)
              replace c37:=yb.mpr c37;subst c37;rw [if_neg (show ¬ (false=true) by decide)] at H;have H':=zh H;clear H
              try go_wp2
              replace HO_6:=zh (zo HO_6.out);replace HO_7:=zh (zo HO_7.out);replace BK372:=zh (zf BK372.out);replace BK373:=zh (zf BK373.out);replace HB:=zh (zc HB.out);have p387 : 0≤(x11_3 : Int):=zy jC;have q387 : x11_3<(((rd_T60 l0_0 x9_1).f1).length : Int):=zy jC;obtain ⟨ad387,e387,hx387_0,hx387_1⟩:=at_T28 HR381_1.out x11_3 p387 q387;have hw387_1:=hx387_1;have hw387_0:=hx387_0
              cases e387
              replace hx387_0:=(HB.out.cell (zl w _ hx387_0)).trans hx387_0;replace hx387_1:=(HB.out.cell (zl w _ hx387_1)).trans hx387_1;replace p387:=eq_true p387;replace q387:=eq_true q387;refine start_ (n:=7) (S:=fun w' => w'.cell? ⟨gb373,0,none⟩=some (.string a1_0)∧w'.cell? ⟨gb373,1,none⟩=some (.string a1_1)∧w'.cell? ⟨gb373,2,none⟩=some (.bool a1_2)∧w'.cell? (ad387.add ((x11_3).toNat*2))=some (.string ((rd_T28 ((rd_T60 l0_0 x9_1).f1) x11_3).f0))∧w'.cell? ⟨(ad387.add ((x11_3).toNat*2)).block,(ad387.add ((x11_3).toNat*2)).off+1,none⟩=some (.int .i64 ((rd_T28 ((rd_T60 l0_0 x9_1).f1) x11_3).f1))) (ds:=[]) (bm_ 0 7) jA rfl rfl ⟨(zz BK373.out 0).trans rfl,(zz BK373.out 1).trans rfl,(zz BK373.out 2).trans rfl,((HB.out.cell (zl w _ hw387_0)).trans hw387_0),((HB.out.cell (zl w _ hw387_1)).trans hw387_1)⟩ (fun hHeld=>?_);generalize wr.drew=w42 at HO_6 HO_7 BK372 BK373 HB hx387_0 hx387_1 hHeld ⊢;refine pure_ (i:=1) (N:=some 71) (v:=?_) (a':=?_) #[false,true,false,false,false,false,false] rfl rfl jA (fun _ _ _ h=>h) (Or.inl ⟨by rfl,?_⟩) ?_ ?_;rotate_left;exact jb;rotate_left;exact jc
              refine pure_ (i:=2) (N:=some 72) (v:=?_) (a':=?_) #[false,true,true,false,false,false,false] rfl rfl jA (fun _ _ _ h=>h) (Or.inl ⟨by rfl,?_⟩) ?_ ?_;rotate_left;exact jb;rotate_left;exact jc
              refine pure_ (i:=3) (N:=some 73) (v:=?_) (a':=?_) #[false,true,true,true,false,false,false] rfl rfl jA (fun _ _ _ h=>h) (Or.inl ⟨by rfl,?_⟩) ?_ ?_;rotate_left;exact jb;rotate_left;exact jc
              refine pure_ (i:=4) (N:=some 74) (v:=?_) (a':=?_) #[false,true,true,true,true,false,false] rfl rfl jA (fun _ _ _ h=>h) (Or.inl ⟨by rfl,?_⟩) ?_ ?_;rotate_left;exact jb;rotate_left;exact jc
              refine take_ (i:=0) (N:=some 70) (v:=?_) (a':=?_) (bm_ 5 7) rfl rfl jA (fun _ _ _ h=>h) (Or.inl ⟨by rfl,?_⟩) hHeld ?_ ?_;rotate_left
              ·
               rintro w' ⟨s0,s1,s2,s3,s4⟩
               go_simp
               with_reducible rfl
              rotate_left
              exact jc
              refine take_ (i:=5) (N:=some 75) (v:=?_) (a':=?_) (bm_ 6 7) rfl rfl jA (fun _ _ _ h=>h) (Or.inl ⟨by rfl,?_⟩) hHeld ?_ ?_;rotate_left
              ·
               rintro w' ⟨s0,s1,s2,s3,s4⟩
               go_simp
               with_reducible rfl
              rotate_left
              exact jc
              refine one_ (i:=6) (N:=some 76) (bm_ 7 7) rfl rfl jA jB (fun K hK=>?_);refine goes_ Try.func51 jA rfl #[.agg #[.string a1_0,.string a1_1,.bool a1_2],.string ((rd_T28 ((rd_T60 l0_0 x9_1).f1) x11_3).f0)] (by rfl) rfl rfl jF ?_
              with_reducible refine (F0p.calls  a1_0 a1_1 a1_2 ((rd_T28 ((rd_T60 l0_0 x9_1).f1) x11_3).f0) false _ A36.out).mono ?_
              rintro e w43 ⟨rfl,hb⟩;refine ⟨_,rfl,?_⟩;replace HO_6:=zh (yg jN hb);replace HO_7:=zh (yg jJ hb);replace BK372:=zh (cD BK372.out je hb);replace BK373:=zh (cD BK373.out jl hb);replace HB:=zh (zC jV hb);(try clear hb);(try clear hb2);(try clear hk);(try clear hi);refine hK.out _ _ ⟨(zz BK373.out 0).trans rfl,(zz BK373.out 1).trans rfl,(zz BK373.out 2).trans rfl,((HB.out.cell (zl w _ hw387_0)).trans hw387_0),((HB.out.cell (zl w _ hw387_1)).trans hw387_1)⟩ (fun hHeld=>?_);clear hK K;refine norm_ (a':=?_) ?_ ?_;rotate_left
              ·
               show Act.put _ (some 76) _=_
               simp only [Act.put,zi,zj,zk,zG,zH]
               rfl
              refine done_ jA ?_
              try go_wp2
              go_roundg k3
              case measure=>have:=HK1.out;have:=HJ15.out;have:=HK3.out;omega
              case rel=>exact ⟨(x6_3),(wrap64 (x11_3+1)),jE,H',⟨jCr⟩,⟨jN⟩,⟨jJ⟩,⟨je⟩,⟨jl⟩,⟨jV⟩⟩
             rw [if_neg c35] at H;exact absurd H (by simp)
            rw [if_neg c34] at H;have c34b0 : decide (x11_3<(((rd_T60 l0_0 x9_1).f1).length : Int))=false:=decide_eq_false c34;clear c34;have H':=zh H;clear H
            go_wp2
            go_roundg k3
            case measure=>have:=HK1.out;have:=HJ15.out;have:=HK3.out;omega
            case rel=>exact ⟨(x6_3),(y384),(wrap64 (x9_1+1)),jE,H',⟨jCr⟩,⟨jN⟩,⟨jJ⟩,⟨je⟩,⟨jl⟩,⟨jV⟩⟩
         rw [if_neg c30] at H;exact absurd H (by simp)
        rw [if_neg c29] at H;exact absurd H (by simp)
       rw [if_neg c28] at H;exact absurd H (by simp)
    rw [if_neg c15] at H;exact absurd H (by simp)
   rw [if_neg c14] at H;have c14b0 : decide (x9_1<(l0_0.length : Int))=false:=decide_eq_false c14;clear c14;simp only [Option.some.injEq,Prod.mk.injEq] at H;obtain ⟨rfl,rfl⟩:=H;have hnb44:=NB372_373.out;have hnc44:=NB373_372.out;obtain ⟨hcz45_0,hcz45_1,hfz45_0,hfz45_1⟩:=cB2 BK372.out
   go_wp2
   go_ret2
   exact ⟨_,_,jG,jN,jJ,jV⟩

end Go.Proofs.Ytgifonogfgpjdaa.Q
end
section
namespace Go.Proofs.Ytgifonogfgpjdaa.Pure
open Go Go.RowKit Go.Proofs.Ytgifonogfgpjdaa.Q Go.Proofs.YtgifonogfgpjdaaW.PrintWords Go.Proofs.YtgifonogfgpjdaaW.PrintLast Go.Proofs.YtgifonogfgpjdaaW.PrintMore Go.Proofs.YtgifonogfgpjdaaW.Pl
def rg (hi : ByteArray) (op : Bool) (first : Bool) (ps : List IPag) : List IPag:=if first=true then ranged hi op ps else taken hi op ps
theorem rg_next (hi : ByteArray) (op : Bool) (first : Bool) (p : IPag) (ps : List IPag) (h : first=true∨stop hi op p=false) : rg hi op first (p :: ps)=p :: taken hi op ps:=by
 unfold rg
 cases first with
 | true=>rfl
 | false =>
  rcases h with h|h
  ·
   simp at h
  simp [taken,h]
theorem flat_drop (T : List IPag) (i : Nat) (hi : i<T.length) : ((T.drop i).flatMap (·.f1)).length=T[i].f1.length+((T.drop (i+1)).flatMap (·.f1)).length:=by
 rw [drop_at T i hi,List.flatMap_cons,List.length_append]
def fl (lo hi : ByteArray) (op : Bool) (l : List IEnt) : List IEnt:=l.filter (fun e=>ihas lo hi op e.f0)
theorem range_spec (T : List IPag) (n : Int) (lo hi : ByteArray) (op : Bool) (hT : T.length≤1048576) (hf : (T.flatMap (·.f1)).length≤1048576) (h0 : 0<T.length) :
  Eve (fun k=>F5.f k T n lo hi op) (fl lo hi op ((ranged hi op (T.drop (place ⟨lo,-1⟩ 0 0 T).toNat)).flatMap (·.f1)),(ranged hi op (T.drop (place ⟨lo,-1⟩ 0 0 T).toNat)).map (·.f0)):=by
 simp only [F5.f];have hpl:=place_spec T n ⟨lo,-1⟩ hT h0;rw [← place_from _ _ h0] at hpl;refine Eve.bind hpl ?_;have hin:=place_in ⟨lo,-1⟩ T 0 0 (by omega) (by omega);obtain ⟨b,hb⟩ : ∃ b : Nat,place ⟨lo,-1⟩ 0 0 T=(b : Int):=⟨(place ⟨lo,-1⟩ 0 0 T).toNat,by omega⟩;rw [hb] at hin ⊢;rw [Int.toNat_natCast];have hbl : b<T.length:=by omega
 have hfT : ∀ i,((T.drop i).flatMap (·.f1)).length≤1048576:=fun i=>by
  have : T.flatMap (·.f1)=(T.take i).flatMap (·.f1)++(T.drop i).flatMap (·.f1):=by
   conv=>lhs;rw [← List.take_append_drop i T]
   rw [List.flatMap_append]
  rw [this,List.length_append] at hf
  omega
 have:=ev_loop T (fun k (s : List IEnt×List Int) i=>F5.l0 k s.1 s.2 (b : Int) i T n lo hi op)
  (fun i s r=>(s.1++fl lo hi op ((rg hi op (decide (i=b)) r).flatMap (·.f1)),s.2++(rg hi op (decide (i=b)) r).map (·.f0)))
  (fun i s=>b≤i∧s.1.length+((T.drop i).flatMap (·.f1)).length≤1048576∧s.2.length≤i) (fun s hs=>by
   simp only [F5.l0];refine Eve.ite (fun h=>absurd h (by omega)) (fun _=>Eve.one.eq ?_);have : rg hi op (decide (T.length=b)) ([] : List IPag)=[]:=by unfold rg;split <;> rfl
   rw [this];simp [fl]) (fun i hi_ s hs ih=>by
   obtain ⟨out,pg⟩:=s;obtain ⟨hbi,hs1,hs2⟩:=hs;simp only at hs1 hs2 ih ⊢;rw [flat_drop T i hi_] at hs1
   have hjf : (decide (i=b)=true∨stop hi op T[i]=false)→Eve (fun k=>F5.j1 k out pg (b : Int) (i : Int) T[i].f1 false T n lo hi op) (out++fl lo hi op ((rg hi op (decide (i=b)) (T[i] :: T.drop (i+1))).flatMap (·.f1)),pg++(rg hi op (decide (i=b)) (T[i] :: T.drop (i+1))).map (·.f0)):=fun hst=>by
    rw [rg_next hi op _ _ _ hst];refine Eve.succ ?_;simp only [F5.j1,rdIP _ _ hi_];refine Eve.ite (fun h=>absurd h (by simp)) (fun _=>?_);refine Eve.ite (fun _=>?_) (fun h=>absurd (by omega) h);refine Eve.ite (fun _=>?_) (fun h=>absurd (by omega) h);refine Eve.ite (fun _=>?_) (fun h=>absurd (by omega) h);have hl:=ev_loop0 T[i].f1 (fun k (o : List IEnt) j=>F5.l1 k o (pg ++ [T[i].f0]) (b : Int) (i : Int) T[i].f1 j T n lo hi op)
     (fun _ o r=>(o++fl lo hi op r++fl lo hi op ((taken hi op (T.drop (i+1))).flatMap (·.f1)),pg ++ [T[i].f0]++(taken hi op (T.drop (i+1))).map (·.f0)))
     (fun j o=>o.length+(T[i].f1.length - j)+((T.drop (i+1)).flatMap (·.f1)).length≤1048576) (fun o ho=>by
      simp only [F5.l1,wi (show i≤9223372036854775806 by omega)];refine Eve.ite (fun h=>absurd h (by omega)) (fun _=>?_);have hx:=ih (o,pg ++ [T[i].f0]) ⟨by omega,by simp only;omega,by simp only [List.length_append,List.length_singleton];omega⟩;have hne : decide (i+1=b)=false:=decide_eq_false (by omega);simp only [hne] at hx;refine hx.eq ?_
      simp [rg,fl]) (fun j hj o ho ihj=>by
      simp only [F5.l1,rdIE _ _ hj,wi (show j≤9223372036854775806 by have:=hs1;omega)];refine Eve.ite (fun _=>?_) (fun h=>absurd (by omega) h);refine Eve.ite (fun _=>?_) (fun h=>absurd (by omega) h)
      have hh : F0p.f lo hi op T[i].f1[j].f0=some (ihas lo hi op T[i].f1[j].f0):=by
       unfold F0p.f ihas
       split
       ·
        rfl
       split <;> rfl
      rw [hh];simp only [Option.bind_some];refine Eve.ite (fun h=>?_) (fun h=>?_)
      ·
       refine Eve.ite (fun _=>?_) (fun h=>absurd (by omega) h)
       refine (ihj (o ++ [⟨T[i].f1[j].f0,T[i].f1[j].f1⟩]) (by simp only [List.length_append,List.length_singleton];omega)).eq ?_;have e9 : fl lo hi op (T[i].f1[j] :: T[i].f1.drop (j+1))=T[i].f1[j] :: fl lo hi op (T[i].f1.drop (j+1)):=by unfold fl;rw [List.filter_cons,if_pos h]
       rw [e9];simp only [List.append_assoc,List.cons_append,List.nil_append]
      refine (ihj o (by omega)).eq ?_;have e9 : fl lo hi op (T[i].f1[j] :: T[i].f1.drop (j+1))=fl lo hi op (T[i].f1.drop (j+1)):=by unfold fl;rw [List.filter_cons,if_neg h]
      rw [e9]) out (by omega)
    refine hl.eq ?_;rw [List.flatMap_cons];simp [fl,List.filter_append]
   simp only [F5.l0,rdIP _ _ hi_];refine Eve.ite (fun _=>?_) (fun h=>absurd (by omega) h);refine Eve.ite (fun _=>?_) (fun h=>absurd (by omega) h);refine Eve.ite (fun hgt=>?_) (fun hgt=>hjf (.inl (decide_eq_true (by omega))));have hnb : decide (i=b)=false:=decide_eq_false (by omega);refine Eve.ite (fun ho=>hjf (.inr (by unfold stop;rw [ho];rfl))) (fun ho=>?_);have ho' : op=false:=by simpa using ho
   refine Eve.ite (fun hl=>?_) (fun hl=>hjf (.inr ?_))
   ·
    refine Eve.ite (fun _=>?_) (fun h=>absurd (by omega) h)
    have hl' : 0<T[i].f1.length:=by omega
    have hr:=rdIE T[i].f1 0 hl';simp only [show ((0 : Nat) : Int)=0 from rfl] at hr;simp only [hr];have hc : T[i].f1=T[i].f1[0] :: T[i].f1.drop 1:=drop_at T[i].f1 0 hl'
    have hst : stop hi op T[i] = !Op.bytesLess T[i].f1[0].f0.toList hi.toList:=by
     unfold stop;rw [ho'];generalize hg : T[i].f1[0]=f at hc ⊢;rw [hc];rfl
    rw [← hst]
    cases hq : stop hi op T[i] with
    | false=>exact hjf (.inr hq)
    | true =>
     refine Eve.succ ?_;simp only [F5.j1,if_true];refine Eve.one.eq ?_;rw [hnb];simp [rg,taken,hq,fl]
   have hc : T[i].f1=[]:=List.length_eq_zero_iff.1 (by omega)
   unfold stop;rw [hc];simp) (T.length - b) b ([],[]) (by omega) ⟨Nat.le_refl _,by simpa using hfT b,Nat.zero_le _⟩
 refine this.eq ?_;simp [rg]
theorem poks_in (T : List IPag) (n : Int) : ∀ (seen : List Int) (ps : List IPag),poks T n seen ps=true → ∀ p ∈ ps,T.length > 1→0<p.f1.length
 | _,[],_,p,hp,_=>by simp at hp
 | seen,q :: ps,h,p,hp,hl=>by
  simp only [poks,Bool.and_eq_true] at h;rcases List.mem_cons.1 hp with rfl|hp
  ·
   have h1:=h.1
   simp only [pok,Bool.and_eq_true,Bool.not_eq_true',Bool.and_eq_false_iff,decide_eq_true_eq,decide_eq_false_iff_not] at h1;have:=h1.2.2.2
   omega
  exact poks_in T n _ ps h.2 p hp hl
theorem range_impl (E : List IEnt) (Y : List IPag) (lo hi : ByteArray) (op : Bool) (hY : Y.length≤1048576) (hne : ∀ j,(h : j<Y.length)→0<j→0<Y[j].f1.length) :
  Eve (fun k=>F9.l0 k E ([] : List Int) Y (Y.length : Int) 0 lo hi op) (E,(ranged hi op Y).map (·.f0),0):=by
 have:=ev_loop0 Y (fun k (s : List Int) i=>F9.l0 k E s Y (Y.length : Int) i lo hi op) (fun i s r=>(E,s++(rg hi op (decide (i=0)) r).map (·.f0),(0 : Int))) (fun i s=>s.length=i) (fun s hs=>by
  simp only [F9.l0];refine Eve.ite (fun h=>absurd h (by omega)) (fun _=>Eve.one.eq ?_);have : rg hi op (decide (Y.length=0)) ([] : List IPag)=[]:=by unfold rg;split <;> rfl
  rw [this];simp) (fun i hi_ s hs ih=>by
  have hnx : (decide (i=0)=true∨stop hi op Y[i]=false)→Eve (fun k=>F9.l0 k E (s ++ [Y[i].f0]) Y (Y.length : Int) ((i+1 : Nat) : Int) lo hi op) (E,s++(rg hi op (decide (i=0)) (Y[i] :: Y.drop (i+1))).map (·.f0),0):=fun hst=>by
   rw [rg_next hi op _ _ _ hst];have hx:=ih (s ++ [Y[i].f0]) (by simp [hs]);have hne0 : decide (i+1=0)=false:=decide_eq_false (by omega);simp only [hne0] at hx;refine hx.eq ?_;simp [rg]
  simp only [F9.l0,rdIP _ _ hi_,wi (show i≤9223372036854775806 by omega)];refine Eve.ite (fun _=>?_) (fun h=>absurd (by omega) h);refine Eve.ite (fun _=>?_) (fun h=>absurd (by omega) h);refine Eve.ite (fun _=>?_) (fun h=>absurd (by omega) h);refine Eve.ite (fun hgt=>?_) (fun hgt=>?_)
  ·
   refine Eve.ite (fun ho=>?_) (fun ho=>?_)
   ·
    refine Eve.ite (fun _=>?_) (fun h=>absurd (by omega) h)
    exact hnx (.inr (by unfold stop;rw [ho];rfl))
   have ho' : op=false:=by simpa using ho
   have hl' : 0<Y[i].f1.length:=hne i hi_ (by omega);refine Eve.ite (fun _=>?_) (fun h=>absurd (by omega) h);have hr:=rdIE Y[i].f1 0 hl';simp only [show ((0 : Nat) : Int)=0 from rfl] at hr;simp only [hr];have hc : Y[i].f1=Y[i].f1[0] :: Y[i].f1.drop 1:=drop_at Y[i].f1 0 hl'
   have hst : stop hi op Y[i] = !Op.bytesLess Y[i].f1[0].f0.toList hi.toList:=by
    unfold stop;rw [ho'];generalize hg : Y[i].f1[0]=f at hc ⊢;rw [hc];rfl
   refine Eve.ite (fun hb=>?_) (fun hb=>Eve.one.eq ?_)
   ·
    refine Eve.ite (fun _=>?_) (fun h=>absurd (by omega) h)
    exact hnx (.inr (by rw [hst,hb];rfl))
   have hs1 : stop hi op Y[i]=true:=by rw [hst];simpa using hb
   have hn0 : decide (i=0)=false:=decide_eq_false (by omega);rw [hn0];simp [rg,taken,hs1]
  refine Eve.ite (fun _=>?_) (fun h=>absurd (by omega) h)
  exact hnx (.inl (decide_eq_true (by omega)))) [] rfl
 refine this.eq ?_;simp [rg]
structure WF (T : List IPag) (n : Int) : Prop where
 len : 0<T.length∧T.length≤60
 nx : 2≤n∧n≤100000
 num : ∀ p ∈ T,1≤p.f0∧p.f0≤n - 1
 nod : (T.map (·.f0)).Nodup
 small : ∀ p ∈ T,p.f1.length≤4
 full : 1<T.length → ∀ p ∈ T,0<p.f1.length
 ok : ∀ e ∈ T.flatMap (·.f1),eok e=true
 rise : Rise (T.flatMap (·.f1))
theorem poks_of (T : List IPag) (n : Int) : ∀ (ps : List IPag) (seen : List Int),(∀ p ∈ ps,1≤p.f0∧p.f0≤n - 1)→(∀ p ∈ ps,p.f0 ∉ seen)→(ps.map (·.f0)).Nodup→(∀ p ∈ ps,p.f1.length≤4)→(1<T.length → ∀ p ∈ ps,0<p.f1.length)→poks T n seen ps=true
 | [],_,_,_,_,_,_=>rfl
 | p :: ps,seen,h1,h2,h3,h4,h5=>by
  have hp:=h1 p (by simp);have h2p:=h2 p (by simp);have h4p:=h4 p (by simp);rw [List.map_cons,List.nodup_cons] at h3
  have hc : seen.contains p.f0=false:=by
   cases h : seen.contains p.f0 with
   | false=>rfl
   | true=>exact absurd (by simpa using h) h2p
  have hz : (decide ((p.f1.length : Int)=0) && decide ((T.length : Int) > 1))=false:=by
   by_cases h : 1<T.length
   ·
    have:=h5 h p (by simp)
    rw [decide_eq_false (by omega)];rfl
   rw [decide_eq_false (show ¬ ((T.length : Int) > 1) by omega),Bool.and_false]
  have hk : pok T n seen p=true:=by
   unfold pok inr;rw [hc,hz,decide_eq_true hp.1,decide_eq_true hp.2,decide_eq_true (show (p.f1.length : Int)≤4 by omega)];rfl
  simp only [poks,hk,Bool.true_and];refine poks_of T n ps _ (fun q hq=>h1 q (by simp [hq])) (fun q hq hm=>?_) h3.2 (fun q hq=>h4 q (by simp [hq])) (fun h q hq=>h5 h q (by simp [hq]));rcases List.mem_append.1 hm with hm|hm
  ·
   exact h2 q (by simp [hq]) hm
  have:=List.mem_singleton.1 hm;exact h3.1 (by rw [← this];exact List.mem_map_of_mem hq)
theorem ens_of : ∀ (l : List IEnt) (p : IEnt),(∀ e ∈ l,eok e=true)→(∀ e ∈ l,el p e=true)→Rise l→ens p l=true
 | [],_,_,_,_=>rfl
 | e :: l,p,h1,h2,h3=>by
  have h3':=List.pairwise_cons.1 h3;simp only [ens,Bool.and_eq_true];exact ⟨h1 e (by simp),h2 e (by simp),ens_of l e (fun x hx=>h1 x (by simp [hx])) h3'.1 h3'.2⟩
theorem WF.tok {T : List IPag} {n : Int} (h : WF T n) : tok T n=true:=by
 have h1:=h.len;have h2:=h.nx;unfold Pure.tok inr;rw [decide_eq_true (show (1 : Int)≤T.length by omega),decide_eq_true (show (T.length : Int)≤60 by omega),decide_eq_true h2.1,decide_eq_true h2.2,poks_of T n T [] h.num (fun _ _ h=>by simp at h) h.nod h.small h.full,ens_of _ _ h.ok (fun e he=>noE_less e (h.ok e he)) h.rise]
 rfl
theorem place_ge (e : IEnt) (T : List IPag) (i : Nat) (c : Int) (h : c≤i) : c≤place e i c T:=by
 rcases place_at e T i c with h1|⟨j,f,fs,hj,h1,_⟩
 ·
  omega
 rw [h1];omega
theorem place_gt (e : IEnt) : ∀ (T : List IPag) (i : Nat) (c : Int),c<i → ∀ (m : Nat) (hm : m<T.length),place e i c T<((i+m : Nat) : Int) → ∀ f fs,T[m].f1=f :: fs→el e f=true
 | [],_,_,_,_,hm,_,_,_,_=>by simp at hm
 | p :: ps,i,c,hc,m,hm,h,f,fs,hf=>by
  simp only [place] at h
  cases m with
  | zero =>
   simp only [List.getElem_cons_zero] at hf;rw [hf] at h;simp only at h
   by_cases hl : el e f=true
   ·
    exact hl
   rw [if_neg hl] at h;have:=place_ge e ps (i+1) (i : Int) (by omega)
   omega
  | succ m =>
   simp only [List.getElem_cons_succ] at hf;refine place_gt e ps (i+1) _ ?_ m (by simpa using hm) (by rw [show i+1+m=i+(m+1) by omega];exact h) f fs hf
   repeat' split
   all_goals omega
theorem page_behind {T : List IPag} (e : IEnt) (h0 : 0<T.length) (m : Nat) (hm : m<T.length) (h : pgN T e<m) (f : IEnt) (fs : List IEnt) (hf : T[m].f1=f :: fs) : el e f=true:=by
 have hg:=(pg_lt e h0).2;rw [place_from _ _ h0] at hg;have hd : T.drop 1=T.drop 1:=rfl;obtain ⟨m',rfl⟩ : ∃ m',m=m' + 1:=⟨m - 1,by omega⟩;exact place_gt e (T.drop 1) 1 0 (by omega) m' (by rw [List.length_drop];omega) (by rw [hg];omega) f fs (by rw [List.getElem_drop];simpa [Nat.add_comm] using hf)
theorem page_first {T : List IPag} (e : IEnt) (h0 : 0<T.length) (h : 0<pgN T e) : ∃ f fs,(pageN T e).f1=f :: fs ∧ ¬ el e f=true:=by
 have hg:=(pg_lt e h0).2;rcases place_at e T 0 0 with h1|⟨j,f,fs,hj,h1,h2,h3⟩
 ·
  rw [h1] at hg;omega
 have : j=pgN T e:=by rw [h1] at hg;omega
 subst this;exact ⟨f,fs,by rw [pageN_at e h0];exact h2,h3⟩
theorem set_is {α : Type} (T : List α) (j : Nat) (p : α) (h : j<T.length) : T.set j p=T.take j++p :: T.drop (j+1):=by
 rw [List.set_eq_take_append_cons_drop,if_pos h]
theorem list_is {α : Type} (T : List α) (j : Nat) (h : j<T.length) : T=T.take j++T[j] :: T.drop (j+1):=by
 conv=>lhs;rw [← List.take_append_drop j T,drop_at T j h]
theorem flat_mid (T : List IPag) (j : Nat) (h : j<T.length) : T.flatMap (·.f1)=(T.take j).flatMap (·.f1)++(T[j].f1++(T.drop (j+1)).flatMap (·.f1)):=by
 conv=>lhs;rw [list_is T j h,List.flatMap_append,List.flatMap_cons]
theorem around {T : List IPag} {n : Int} (hw : WF T n) (e : IEnt) : (∀ x ∈ (T.take (pgN T e)).flatMap (·.f1),el x e=true) ∧ ∀ y ∈ (T.drop (pgN T e+1)).flatMap (·.f1),el e y=true:=by
 have h0:=hw.len.1;have hj:=(pg_lt e h0).1;have hr:=hw.rise
 constructor
 ·
  intro x hx
  have hj0 : 0<pgN T e:=by
   rcases Nat.eq_zero_or_pos (pgN T e) with h|h
   ·
    rw [h] at hx;simp at hx
   exact h
  obtain ⟨f,fs,hf,hl⟩:=page_first e h0 hj0;rw [flat_mid T _ hj,← pageN_at e h0,hf] at hr;have hxf : el x f=true:=(List.pairwise_append.1 hr).2.2 x hx f (by simp)
  by_cases h2 : el f e=true
  ·
   exact el_trans hxf h2
  rw [el_total hl h2];exact hxf
 intro y hy;obtain ⟨p,hp,hyp⟩:=List.mem_flatMap.1 hy;obtain ⟨i,hi,rfl⟩:=List.getElem_of_mem hp;rw [List.length_drop] at hi;rw [List.getElem_drop] at hyp;have hm : pgN T e+1+i<T.length:=by omega
 cases hc : T[pgN T e+1+i].f1 with
 | nil=>rw [hc] at hyp;simp at hyp
 | cons f fs =>
  have h1:=page_behind e h0 _ hm (by omega) f fs hc;have h2:=page_rise hr (List.getElem_mem hm);rw [hc] at hyp h2;rcases List.mem_cons.1 hyp with rfl|h3
  ·
   exact h1
  exact el_trans h1 ((List.pairwise_cons.1 h2).1 y h3)
theorem rowP_mem {e x : IEnt} {l : List IEnt} (h : x ∈ rowP e l) : x=e∨x ∈ l:=by
 unfold rowP at h;rcases List.mem_append.1 h with h|h
 ·
  rcases List.mem_append.1 h with h|h
  ·
   exact .inr (List.mem_of_mem_take h)
  exact .inl (List.mem_singleton.1 h)
 exact .inr (List.mem_of_mem_drop h)
theorem rowP_rise {e : IEnt} {l : List IEnt} (hr : Rise l) (ht : ¬ th e l=true) : Rise (rowP e l):=by
 rw [th_mem e l hr] at ht;unfold rowP Rise;rw [List.append_assoc];refine List.pairwise_append.2 ⟨List.Pairwise.sublist (List.take_sublist _ _) hr,List.pairwise_append.2 ⟨List.pairwise_singleton _ _,List.Pairwise.sublist (List.drop_sublist _ _) hr,fun a ha b hb=>?_⟩,fun a ha b hb=>?_⟩
 ·
  obtain rfl:=List.mem_singleton.1 ha
  obtain ⟨i,hi,rfl⟩:=List.getElem_of_mem hb;rw [List.length_drop] at hi;rw [List.getElem_drop] at hb ⊢;have h1:=up_after a hr (up a l+i) (by omega) (by omega)
  by_cases h2 : el a l[up a l+i]=true
  ·
   exact h2
  exact absurd (by rw [el_total h2 h1];exact List.getElem_mem _) ht
 have hae : el a e=true:=by
  obtain ⟨i,hi,rfl⟩:=List.getElem_of_mem ha;rw [List.length_take] at hi;rw [List.getElem_take];exact up_before e l i (by omega) (by omega)
 rcases List.mem_append.1 hb with hb|hb
 ·
  obtain rfl:=List.mem_singleton.1 hb;exact hae
 have:=List.pairwise_append.1 ((List.take_append_drop (up e l) l).symm ▸ hr : (l.take (up e l)++l.drop (up e l)).Pairwise _);exact this.2.2 a ha b hb
def flatP (T : List IPag) (e : IEnt) : List IEnt:=(T.take (pgN T e)).flatMap (·.f1)++(rowP e (pageN T e).f1++(T.drop (pgN T e+1)).flatMap (·.f1))
theorem flatP_rise {T : List IPag} {n : Int} (hw : WF T n) (e : IEnt) (ht : ¬ th e (pageN T e).f1=true) : Rise (flatP T e):=by
 have h0:=hw.len.1;have hj:=(pg_lt e h0).1;obtain ⟨ha,hb⟩:=around hw e;have hr:=hw.rise;rw [flat_mid T _ hj,← pageN_at e h0] at hr;obtain ⟨r1,r2,r3⟩:=List.pairwise_append.1 hr;obtain ⟨r4,r5,r6⟩:=List.pairwise_append.1 r2;refine List.pairwise_append.2 ⟨r1,List.pairwise_append.2 ⟨rowP_rise r4 ht,r5,fun a hA b hB=>?_⟩,fun a hA b hB=>?_⟩
 ·
  rcases rowP_mem hA with rfl|h
  ·
   exact hb b hB
  exact r6 a h b hB
 rcases List.mem_append.1 hB with h|h
 ·
  rcases rowP_mem h with rfl|h
  ·
   exact ha a hA
  exact r3 a hA b (List.mem_append.2 (.inl h))
 exact r3 a hA b (List.mem_append.2 (.inr h))
theorem flatP_ok {T : List IPag} {n : Int} (hw : WF T n) (e : IEnt) (he : eok e=true) : ∀ x ∈ flatP T e,eok x=true:=by
 intro x hx;have h0:=hw.len.1;have hj:=(pg_lt e h0).1;have hk:=hw.ok;rw [flat_mid T _ hj,← pageN_at e h0] at hk;rcases List.mem_append.1 hx with h|h
 ·
  exact hk x (List.mem_append.2 (.inl h))
 rcases List.mem_append.1 h with h|h
 ·
  rcases rowP_mem h with rfl|h
  ·
   exact he
  exact hk x (List.mem_append.2 (.inr (List.mem_append.2 (.inl h))))
 exact hk x (List.mem_append.2 (.inr (List.mem_append.2 (.inr h))))
theorem map_set {T : List IPag} (j : Nat) (h : j<T.length) (X : List IEnt) : (T.set j ⟨T[j].f0,X⟩).map (·.f0)=T.map (·.f0):=by
 have h9:=congrArg (List.map (fun p : IPag=>p.f0)) (list_is T j h);rw [set_is T j _ h,h9];simp only [List.map_append,List.map_cons]
theorem putB_WF {T : List IPag} {n : Int} (hw : WF T n) (e : IEnt) (he : eok e=true) : WF (putB T n e).1 (putB T n e).2.1:=by
 have h0:=hw.len.1;have hj:=(pg_lt e h0).1;have hpe:=pageN_at e h0;unfold putB
 by_cases ht : th e (pageN T e).f1=true
 ·
  rw [if_pos ht];exact hw
 rw [if_neg ht]
 by_cases hf : (pageN T e).f1.length=4∧(T.length=60∨n=100000)
 ·
  rw [if_pos hf];exact hw
 rw [if_neg hf];have hR:=flatP_rise hw e ht;have hO:=flatP_ok hw e he;have hl:=rowP_length e (pageN T e).f1;have hs : (pageN T e).f1.length≤4:=by rw [hpe];exact hw.small _ (List.getElem_mem _)
 unfold putT F6.out
 by_cases h4 : (rowP e (pageN T e).f1).length≤4
 ·
  rw [if_pos h4]
  have hfl : (T.set (pgN T e) ⟨(pageN T e).f0,rowP e (pageN T e).f1⟩).flatMap (·.f1)=flatP T e:=by
   rw [set_is T _ _ hj,List.flatMap_append,List.flatMap_cons];rfl
  have hm : (T.set (pgN T e) ⟨(pageN T e).f0,rowP e (pageN T e).f1⟩).map (·.f0)=T.map (·.f0):=by
   rw [hpe];exact map_set _ hj _
  refine ⟨by rw [List.length_set];exact hw.len,hw.nx,fun p hp=>?_,by rw [hm];exact hw.nod,fun p hp=>?_,fun h1 p hp=>?_,by rw [hfl];exact hO,by rw [hfl];exact hR⟩
  ·
   have : p.f0 ∈ T.map (·.f0):=by rw [← hm];exact List.mem_map_of_mem hp
   obtain ⟨q,hq,he2⟩:=List.mem_map.1 this;rw [← he2];exact hw.num q hq
  ·
   rcases List.mem_or_eq_of_mem_set hp with h|rfl
   ·
    exact hw.small p h
   exact h4
  rw [List.length_set] at h1;rcases List.mem_or_eq_of_mem_set hp with h|rfl
  ·
   exact hw.full h1 p h
  show 0<(rowP e (pageN T e).f1).length
  omega
 rw [if_neg h4,List.set_set];have h5 : (rowP e (pageN T e).f1).length=5:=by omega
 have h2 : (rowP e (pageN T e).f1).length / 2=2:=by omega
 rw [h2];generalize hX : rowP e (pageN T e).f1=X at *
 have hTl : T.length<60∧n<100000:=by
  have hl4 : (pageN T e).f1.length=4:=by omega
  have h1:=hw.len.2;have h3:=hw.nx.2;refine ⟨Nat.lt_of_le_of_ne h1 (fun h=>hf ⟨hl4,.inl h⟩),?_⟩;rcases Int.lt_or_eq_of_le h3 with h|h
  ·
   exact h
  exact absurd ⟨hl4,.inr h⟩ hf
 have hnew : ((T.set (pgN T e) ⟨(pageN T e).f0,X.take 2⟩).take (pgN T e+1) ++ [(⟨n,X.drop 2⟩ : IPag)]++(T.set (pgN T e) ⟨(pageN T e).f0,X.take 2⟩).drop (pgN T e+1))=T.take (pgN T e)++(⟨(pageN T e).f0,X.take 2⟩ : IPag) :: (⟨n,X.drop 2⟩ : IPag) :: T.drop (pgN T e+1):=by
  have hlt : (T.take (pgN T e)).length=pgN T e:=by rw [List.length_take];omega
  have e1 : (T.set (pgN T e) ⟨(pageN T e).f0,X.take 2⟩).take (pgN T e+1)=T.take (pgN T e) ++ [(⟨(pageN T e).f0,X.take 2⟩ : IPag)]:=by
   rw [set_is T _ _ hj,List.take_append,hlt,List.take_of_length_le (by omega),show pgN T e+1 - pgN T e=1 by omega];rfl
  have e2 : (T.set (pgN T e) ⟨(pageN T e).f0,X.take 2⟩).drop (pgN T e+1)=T.drop (pgN T e+1):=by
   rw [set_is T _ _ hj,List.drop_append,hlt,List.drop_of_length_le (by omega),show pgN T e+1 - pgN T e=1 by omega];rfl
  rw [e1,e2];simp
 show WF _ (n+1);simp only [];rw [hnew]
 have hfl : (T.take (pgN T e)++(⟨(pageN T e).f0,X.take 2⟩ : IPag) :: (⟨n,X.drop 2⟩ : IPag) :: T.drop (pgN T e+1)).flatMap (·.f1)=flatP T e:=by
  unfold flatP;rw [hX,List.flatMap_append,List.flatMap_cons,List.flatMap_cons];show _++(X.take 2++(X.drop 2++_))=_;rw [← List.append_assoc (X.take 2),List.take_append_drop]
 have hmem : ∀ p ∈ (T.take (pgN T e)++(⟨(pageN T e).f0,X.take 2⟩ : IPag) :: (⟨n,X.drop 2⟩ : IPag) :: T.drop (pgN T e+1)),p ∈ T∨p=⟨(pageN T e).f0,X.take 2⟩∨p=⟨n,X.drop 2⟩:=by
  intro p hp;rcases List.mem_append.1 hp with h|h
  ·
   exact .inl (List.mem_of_mem_take h)
  rcases List.mem_cons.1 h with h|h
  ·
   exact .inr (.inl h)
  rcases List.mem_cons.1 h with h|h
  ·
   exact .inr (.inr h)
  exact .inl (List.mem_of_mem_drop h)
 have hq : (pageN T e) ∈ T:=by rw [hpe];exact List.getElem_mem _
 have hnq:=hw.num _ hq;have hnx:=hw.nx
 have hlen : (T.take (pgN T e)++(⟨(pageN T e).f0,X.take 2⟩ : IPag) :: (⟨n,X.drop 2⟩ : IPag) :: T.drop (pgN T e+1)).length=T.length+1:=by
  simp only [List.length_append,List.length_cons,List.length_take,List.length_drop];omega
 refine ⟨by rw [hlen];omega,by omega,fun p hp=>?_,?_,fun p hp=>?_,fun _ p hp=>?_,by rw [hfl];exact hO,by rw [hfl];exact hR⟩
 ·
  rcases hmem p hp with h|rfl|rfl
  ·
   have:=hw.num p h;omega
  ·
   exact ⟨hnq.1,by show (pageN T e).f0≤_;omega⟩
  exact ⟨by show 1≤n;omega,by show n≤_;omega⟩
 ·
  have hmp : (T.take (pgN T e)++(⟨(pageN T e).f0,X.take 2⟩ : IPag) :: (⟨n,X.drop 2⟩ : IPag) :: T.drop (pgN T e+1)).map (·.f0)=(T.take (pgN T e)).map (·.f0)++(pageN T e).f0 :: n :: (T.drop (pgN T e+1)).map (·.f0):=by simp
  have hmT : T.map (·.f0)=(T.take (pgN T e)).map (·.f0)++(pageN T e).f0 :: (T.drop (pgN T e+1)).map (·.f0):=by
   conv=>lhs;rw [list_is T _ hj,← hpe]
   simp
  have hnn : n ∉ T.map (·.f0):=fun hm=>by
   obtain ⟨q,hq2,he2⟩:=List.mem_map.1 hm;have:=hw.num q hq2
   omega
  have hnod:=hw.nod;rw [hmT] at hnod hnn;rw [hmp]
  have hp1 : List.Perm ((T.take (pgN T e)).map (·.f0)++(pageN T e).f0 :: n :: (T.drop (pgN T e+1)).map (·.f0)) (n :: ((T.take (pgN T e)).map (·.f0)++(pageN T e).f0 :: (T.drop (pgN T e+1)).map (·.f0))):=by
   rw [show (T.take (pgN T e)).map (·.f0)++(pageN T e).f0 :: n :: (T.drop (pgN T e+1)).map (·.f0)=((T.take (pgN T e)).map (·.f0) ++ [(pageN T e).f0])++n :: (T.drop (pgN T e+1)).map (·.f0) by simp,show (T.take (pgN T e)).map (·.f0)++(pageN T e).f0 :: (T.drop (pgN T e+1)).map (·.f0)=((T.take (pgN T e)).map (·.f0) ++ [(pageN T e).f0])++(T.drop (pgN T e+1)).map (·.f0) by simp];exact List.perm_middle
  exact (List.Perm.nodup_iff hp1).2 (List.nodup_cons.2 ⟨hnn,hnod⟩)
 ·
  rcases hmem p hp with h|rfl|rfl
  ·
   exact hw.small p h
  ·
   show (X.take 2).length≤4
   rw [List.length_take];omega
  show (X.drop 2).length≤4;rw [List.length_drop];omega
 rcases hmem p hp with h|rfl|rfl
 ·
  by_cases h1 : 1<T.length
  ·
   exact hw.full h1 p h
  have hT1 : T.length=1:=by omega
  obtain ⟨i,hi,rfl⟩:=List.getElem_of_mem h;have : i=pgN T e:=by omega
  subst this;rw [← hpe];omega
 ·
  show 0<(X.take 2).length
  rw [List.length_take];omega
 show 0<(X.drop 2).length;rw [List.length_drop];omega
theorem dropT_WF {T : List IPag} {n : Int} (hw : WF T n) (e : IEnt) (ht : th e (pageN T e).f1=true) : WF (dropT T e) n:=by
 have h0:=hw.len.1;have hj:=(pg_lt e h0).1;have hpe:=pageN_at e h0;obtain ⟨hu,-⟩:=(th_iff _ _).1 ht;unfold dropT cutP;generalize hY : (pageN T e).f1.take (up e (pageN T e).f1)++(pageN T e).f1.drop (up e (pageN T e).f1+1)=Y
 have hYs : Y.Sublist (pageN T e).f1:=by
  rw [← hY,← List.eraseIdx_eq_take_drop_succ];exact List.eraseIdx_sublist _ _
 have hYl : Y.length=(pageN T e).f1.length - 1:=by
  rw [← hY];simp only [List.length_append,List.length_take,List.length_drop];omega
 have hsm : (pageN T e).f1.length≤4:=by rw [hpe];exact hw.small _ (List.getElem_mem _)
 have hfT:=flat_mid T _ hj;rw [← hpe] at hfT
 by_cases hc : (pageN T e).f1.length=1∧1<T.length
 ·
  rw [if_pos hc]
  have hlt : (T.take (pgN T e)).length=pgN T e:=by rw [List.length_take];omega
  have hnew : (T.set (pgN T e) ⟨(pageN T e).f0,Y⟩).take (pgN T e)++(T.set (pgN T e) ⟨(pageN T e).f0,Y⟩).drop (pgN T e+1)=T.eraseIdx (pgN T e):=by
   have e1 : (T.set (pgN T e) ⟨(pageN T e).f0,Y⟩).take (pgN T e)=T.take (pgN T e):=by
    rw [set_is T _ _ hj,List.take_append,hlt,List.take_of_length_le (by omega),show pgN T e - pgN T e=0 by omega,List.take_zero,List.append_nil]
   have e2 : (T.set (pgN T e) ⟨(pageN T e).f0,Y⟩).drop (pgN T e+1)=T.drop (pgN T e+1):=by
    rw [set_is T _ _ hj,List.drop_append,hlt,List.drop_of_length_le (by omega),show pgN T e+1 - pgN T e=1 by omega];rfl
   rw [e1,e2,List.eraseIdx_eq_take_drop_succ]
  rw [hnew];have hsub : (T.eraseIdx (pgN T e)).Sublist T:=List.eraseIdx_sublist _ _
  have hfs : ((T.eraseIdx (pgN T e)).flatMap (·.f1)).Sublist (T.flatMap (·.f1)):=by
   rw [hfT,List.eraseIdx_eq_take_drop_succ,List.flatMap_append];exact List.Sublist.append (List.Sublist.refl _) (List.sublist_append_right _ _)
  have hlen : (T.eraseIdx (pgN T e)).length=T.length - 1:=by rw [List.length_eraseIdx,if_pos hj]
  have hl2:=hw.len.2;exact ⟨by rw [hlen];omega,hw.nx,fun p hp=>hw.num p (hsub.subset hp),List.Nodup.sublist (hsub.map _) hw.nod,fun p hp=>hw.small p (hsub.subset hp),fun _ p hp=>hw.full hc.2 p (hsub.subset hp),fun x hx=>hw.ok x (hfs.subset hx),List.Pairwise.sublist hfs hw.rise⟩
 rw [if_neg hc]
 have hm : (T.set (pgN T e) ⟨(pageN T e).f0,Y⟩).map (·.f0)=T.map (·.f0):=by
  rw [hpe];exact map_set _ hj _
 have hfs : ((T.set (pgN T e) ⟨(pageN T e).f0,Y⟩).flatMap (·.f1)).Sublist (T.flatMap (·.f1)):=by
  rw [hfT,set_is T _ _ hj,List.flatMap_append,List.flatMap_cons];exact List.Sublist.append (List.Sublist.refl _) (List.Sublist.append hYs (List.Sublist.refl _))
 refine ⟨by rw [List.length_set];exact hw.len,hw.nx,fun p hp=>?_,by rw [hm];exact hw.nod,fun p hp=>?_,fun h1 p hp=>?_,fun x hx=>hw.ok x (hfs.subset hx),List.Pairwise.sublist hfs hw.rise⟩
 ·
  have : p.f0 ∈ T.map (·.f0):=by rw [← hm];exact List.mem_map_of_mem hp
  obtain ⟨q,hq,he2⟩:=List.mem_map.1 this;rw [← he2];exact hw.num q hq
 ·
  rcases List.mem_or_eq_of_mem_set hp with h|rfl
  ·
   exact hw.small p h
  show Y.length≤4
  omega
 rw [List.length_set] at h1;rcases List.mem_or_eq_of_mem_set hp with h|rfl
 ·
  exact hw.full h1 p h
 show 0<Y.length;have : ¬ (pageN T e).f1.length=1:=fun h=>hc ⟨h,h1⟩
 omega
theorem newT_WF : WF [(⟨1,[]⟩ : IPag)] 2:=by
 refine ⟨by simp,by omega,by simp,by simp,by simp,fun h=>by simp at h,by simp,?_⟩;exact List.Pairwise.nil
end Go.Proofs.Ytgifonogfgpjdaa.Pure
end
section
namespace Go.Proofs.Ytgifonogfgpjdaa.Q
open Go.RowKit Go.Proofs.YtgifonogfgpjdaaW.PrintWords Go.Proofs.YtgifonogfgpjdaaW.PrintLast Go.Proofs.YtgifonogfgpjdaaW.PrintMore
attribute [local go_sem] max2_int min2_int max_two min_two max_three min_three max_four min_four max2_str min2_str str_geq str_gtr str_leq
set_option linter.unusedVariables false
set_option linter.unusedSimpArgs false

def Fx.l0 : Nat→List Int→List Int→Int→Option (Bool)
 | 0,_,_,_=>none
 | k+1,x0,x1,x5=>if x5<(x0.length : Int) then (if 0≤x5 then (if x5<(x1.length : Int) then (if (rd x0 x5)=(rd x1 x5) then (Fx.l0 k x0 x1 (wrap64 (x5+1))) else (some false)) else (none)) else (none)) else (some true)
def Fx.f (k : Nat) (l0 : List Int) (l1 : List Int) : Option (Bool):=if (l0.length : Int)=(l1.length : Int) then (Fx.l0 k l0 l1 0) else (some false)
theorem Fx.mono_l : ∀ k,(∀ y0 y1 y2,LeO (Fx.l0 k y0 y1 y2) (Fx.l0 (k+1) y0 y1 y2))
 | 0=>fun _ _ _ r h=>by simp [Fx.l0] at h
 | k+1=>by
  have ih0:=Fx.mono_l k;intro y0 y1 y2;unfold Fx.l0
  repeat' first|(with_reducible first|exact ih0 _ _ _|exact zQ _|exact zN _|refine zP ?_ ?_|refine zO ?_ (fun _=>?_))|refine zP ?_ ?_|refine zO ?_ (fun _=>?_)
theorem Fx.mono : ∀ a0 a1 k,LeO (Fx.f k a0 a1) (Fx.f (k+1) a0 a1):=by
 intro a0 a1 k;have ih0:=Fx.mono_l k;unfold Fx.f
 repeat' first|(with_reducible first|exact ih0 _ _ _|exact zQ _|exact zN _|refine zP ?_ ?_|refine zO ?_ (fun _=>?_))|refine zP ?_ ?_|refine zO ?_ (fun _=>?_)
set_option maxHeartbeats 8000000 in
set_option maxRecDepth 100000 in
theorem Fx.calls (k : Nat) (A0 : Option Addr) (c0 : Nat) (l0 : List Int) (A1 : Option Addr) (c1 : Nat) (l1 : List Int) (r : Bool) (w : World) (hr0 : Kd.C (Kd.int .i64) w A0 l0.length l0) (hc0 : l0.length≤c0) (hr1 : Kd.C (Kd.int .i64) w A1 l1.length l1) (hc1 : l1.length≤c1) (h : Fx.f k l0 l1=some r) :
  Calls Try.prog 11 #[.slice A0 l0.length c0,.slice A1 l1.length c1] w fun e w' => e = .returned (.bool r)∧Drawn0 w w':=by
 have HR0:=zh hr0;have HC0:=zh hc0;clear hr0 hc0;have HR1:=zh hr1;have HC1:=zh hc1;clear hr1 hc1;have H : (if (l0.length : Int)=(l1.length : Int) then (Fx.l0 k l0 l1 0) else (some false))=some r:=h;clear h
 by_cases c3 : (l0.length : Int)=(l1.length : Int)
 ·
  rw [if_pos c3] at H
  have c3b0 : ((l0.length : Int) == (l1.length : Int))=true:=ya.mpr c3;have c3b1 : ((l0.length : Int) != (l1.length : Int))=false:=zX.mpr c3;have c3b2 : (l0.length == l1.length)=true:=by first|simpa using c3|(simp at c3 ⊢;omega)
  clear c3;have H':=zh H;clear H
  go_enter Try.func11,Try.ntmps11
  go_wp2
  repeat (go_quiet (fail);try go_wp2)
  go_loopg [5] k (fun kq v5 w' => ∃ (x5_1 : Int),v5 = .int .i64 x5_1∧Aside0 (Fx.l0 kq l0 l1 x5_1=some r)∧Aside0 (kq≤k)∧Drawn0 w w')
  case atStart=>exact ⟨(0),jE,H',⟨ye _⟩,jI⟩
  case round =>
   clear H'
   try clear c1
   try clear p2
   try clear c3 c3b0 c3b1 c3b2
   obtain ⟨x5_1,rfl,HA,HK1,⟨m1,rfl⟩⟩:=hrel
   cases gk with
   | zero=>exact absurd HA.out (by simp [Fx.l0])
   | succ k1 =>
    have H:=HA.out;clear HA;simp only [Fx.l0] at H
    by_cases c4 : x5_1<(l0.length : Int)
    ·
     rw [if_pos c4] at H
     have c4b0 : decide (x5_1<(l0.length : Int))=true:=decide_eq_true c4;clear c4
     by_cases c5 : 0≤x5_1
     ·
      rw [if_pos c5] at H
      have c5b0 : decide (0≤x5_1)=true:=decide_eq_true c5;clear c5
      by_cases c6 : x5_1<(l1.length : Int)
      ·
       rw [if_pos c6] at H
       have c6b0 : decide (x5_1<(l1.length : Int))=true:=decide_eq_true c6;clear c6
       by_cases c7 : (rd l0 x5_1)=(rd l1 x5_1)
       ·
        rw [if_pos c7] at H
        have c7b0 : ((rd l0 x5_1) == (rd l1 x5_1))=true:=ya.mpr c7;have c7b1 : ((rd l0 x5_1) != (rd l1 x5_1))=false:=zX.mpr c7;clear c7;have H':=zh H;clear H;have p410 : 0≤(x5_1 : Int):=zy jC;have q410 : x5_1<(l0.length : Int):=zy jC;obtain ⟨ad410,e410,hx410_0⟩:=Kd.at_int HR0.out x5_1 p410 q410
        cases e410
        replace p410:=eq_true p410;replace q410:=eq_true q410;have p411 : 0≤(x5_1 : Int):=zy jC;have q411 : x5_1<(l1.length : Int):=zy jC;obtain ⟨ad411,e411,hx411_0⟩:=Kd.at_int HR1.out x5_1 p411 q411
        cases e411
        replace p411:=eq_true p411;replace q411:=eq_true q411
        go_wp2
        repeat (go_quiet (fail);try go_wp2)
        go_roundg k1
        case measure=>have:=HK1.out;omega
        case rel=>exact ⟨(wrap64 (x5_1+1)),jE,H',⟨jR⟩,jI⟩
       rw [if_neg c7] at H;have c7b0 : ((rd l0 x5_1) == (rd l1 x5_1))=false:=zY.mpr c7;have c7b1 : ((rd l0 x5_1) != (rd l1 x5_1))=true:=zZ.mpr c7;obtain rfl:=zU H;have p410 : 0≤(x5_1 : Int):=zy jC;have q410 : x5_1<(l0.length : Int):=zy jC;obtain ⟨ad410,e410,hx410_0⟩:=Kd.at_int HR0.out x5_1 p410 q410
       cases e410
       replace p410:=eq_true p410;replace q410:=eq_true q410;have p411 : 0≤(x5_1 : Int):=zy jC;have q411 : x5_1<(l1.length : Int):=zy jC;obtain ⟨ad411,e411,hx411_0⟩:=Kd.at_int HR1.out x5_1 p411 q411
       cases e411
       replace p411:=eq_true p411;replace q411:=eq_true q411
       go_wp2
       repeat (go_quiet (fail);try go_wp2)
       go_ret
       exact ⟨jE,jI⟩
      rw [if_neg c6] at H;exact absurd H (by simp)
     rw [if_neg c5] at H;exact absurd H (by simp)
    rw [if_neg c4] at H;have c4b0 : decide (x5_1<(l0.length : Int))=false:=decide_eq_false c4;clear c4;obtain rfl:=zU H
    go_wp2
    repeat (go_quiet (fail);try go_wp2)
    go_ret
    exact ⟨jE,jI⟩
 rw [if_neg c3] at H;have c3b0 : ((l0.length : Int) == (l1.length : Int))=false:=zY.mpr c3;have c3b1 : ((l0.length : Int) != (l1.length : Int))=true:=zZ.mpr c3;have c3b2 : (l0.length == l1.length)=false:=by first|simpa using c3|(simp at c3 ⊢;omega)
 obtain rfl:=zU H
 go_enter Try.func11,Try.ntmps11
 go_wp2
 repeat (go_quiet (fail);try go_wp2)
 go_ret
 exact ⟨jE,jI⟩


def F0q.f (a0 : ByteArray) : Option (Bool):=some (decide ((a0.size : Int) > 65536))
set_option maxHeartbeats 8000000 in
set_option maxRecDepth 100000 in
theorem F0q.calls (a0 : ByteArray) (r : Bool) (w : World) (h : F0q.f a0=some r) :
  Calls Try.prog 53 #[.string a0] w fun e w' => e = .returned (.bool r)∧Drawn0 w w':=by
 have H : (some (decide ((a0.size : Int) > 65536)))=some r:=h;clear h;obtain rfl:=zU H
 go_enter Try.func53,Try.ntmps53
 go_wp2
 go_ret
 exact ⟨jE,jI⟩


def Ft.l0 : Nat→List ByteArray→Int→Int→Option (Int)
 | 0,_,_,_=>none
 | k+1,x0,x7,x8=>if x8<x7 then (if 0≤x8 then (if x8<(x0.length : Int) then ((F0q.f (rdOf ByteArray.empty x0 x8)).bind fun t413=>(if t413=true then (some x8) else (Ft.l0 k x0 x7 (wrap64 (x8+1))))) else (none)) else (none)) else (some (-1))
def Ft.f (k : Nat) (l0 : List ByteArray)  : Option (Int):=Ft.l0 k l0 (l0.length : Int) 0
theorem Ft.mono_l : ∀ k,(∀ y0 y1 y2,LeO (Ft.l0 k y0 y1 y2) (Ft.l0 (k+1) y0 y1 y2))
 | 0=>fun _ _ _ r h=>by simp [Ft.l0] at h
 | k+1=>by
  have ih0:=Ft.mono_l k;intro y0 y1 y2;unfold Ft.l0
  repeat' first|(with_reducible first|exact ih0 _ _ _|exact zQ _|exact zN _|refine zP ?_ ?_|refine zO ?_ (fun _=>?_))|refine zP ?_ ?_|refine zO ?_ (fun _=>?_)
theorem Ft.mono : ∀ a0 k,LeO (Ft.f k a0) (Ft.f (k+1) a0):=by
 intro a0 k;have ih0:=Ft.mono_l k;unfold Ft.f
 repeat' first|(with_reducible first|exact ih0 _ _ _|exact zQ _|exact zN _|refine zP ?_ ?_|refine zO ?_ (fun _=>?_))|refine zP ?_ ?_|refine zO ?_ (fun _=>?_)
set_option maxHeartbeats 8000000 in
set_option maxRecDepth 100000 in
theorem Ft.calls (k : Nat) (A0 : Option Addr) (c0 : Nat) (l0 : List ByteArray)  (r : Int) (w : World) (hr0 : Kd.C Kd.string w A0 l0.length l0) (hc0 : l0.length≤c0) (h : Ft.f k l0=some r) :
  Calls Try.prog 65 #[.slice A0 l0.length c0,.func (.func 53) #[] #[]] w fun e w' => e = .returned (.int .i64 r)∧Drawn0 w w':=by
 have HR0:=zh hr0;have HC0:=zh hc0;clear hr0 hc0;have H : (Ft.l0 k l0 (l0.length : Int) 0)=some r:=h;clear h;have H':=zh H;clear H
 go_enter Try.func65,Try.ntmps65
 go_wp2
 go_loopg [8] k (fun kq v8 w' => ∃ (x8_1 : Int),v8 = .int .i64 x8_1∧Aside0 (Ft.l0 kq l0 (l0.length : Int) x8_1=some r)∧Aside0 (kq≤k)∧Drawn0 w w')
 case atStart=>exact ⟨(0),jE,H',⟨ye _⟩,jI⟩
 case round =>
  clear H'
  try clear p2
  obtain ⟨x8_1,rfl,HA,HK1,⟨m1,rfl⟩⟩:=hrel
  cases gk with
  | zero=>exact absurd HA.out (by simp [Ft.l0])
  | succ k1 =>
   have H:=HA.out;clear HA;simp only [Ft.l0] at H
   by_cases c3 : x8_1<(l0.length : Int)
   ·
    rw [if_pos c3] at H
    have c3b0 : decide (x8_1<(l0.length : Int))=true:=decide_eq_true c3;clear c3
    by_cases c4 : 0≤x8_1
    ·
     rw [if_pos c4] at H
     have c4b0 : decide (0≤x8_1)=true:=decide_eq_true c4;clear c4
     by_cases c5 : x8_1<(l0.length : Int)
     ·
      rw [if_pos c5] at H
      have c5b0 : decide (x8_1<(l0.length : Int))=true:=decide_eq_true c5;clear c5;replace H:=zT.mp H;obtain ⟨t413,A60,H⟩:=H;have A6:=zh A60;clear A60
      by_cases c7 : t413=true
      ·
       subst c7
       rw [if_pos rfl] at H;obtain rfl:=zU H;have p412 : 0≤(x8_1 : Int):=zy jC;have q412 : x8_1<(l0.length : Int):=zy jC;obtain ⟨ad412,e412,hx412_0⟩:=Kd.at_string HR0.out x8_1 p412 q412
       cases e412
       replace p412:=eq_true p412;replace q412:=eq_true q412
       go_wp2_with (first|(go_at_call 53;(with_reducible refine (F0q.calls  (rdOf ByteArray.empty l0 x8_1) true _ A6.out).mono ?_);rintro e w' ⟨rfl,⟨nd,rfl⟩⟩))
       go_ret
       exact ⟨jE,jI⟩
      replace c7:=yb.mpr c7;subst c7;rw [if_neg (show ¬ (false=true) by decide)] at H;have H':=zh H;clear H;have p412 : 0≤(x8_1 : Int):=zy jC;have q412 : x8_1<(l0.length : Int):=zy jC;obtain ⟨ad412,e412,hx412_0⟩:=Kd.at_string HR0.out x8_1 p412 q412
      cases e412
      replace p412:=eq_true p412;replace q412:=eq_true q412
      go_wp2_with (first|(go_at_call 53;(with_reducible refine (F0q.calls  (rdOf ByteArray.empty l0 x8_1) false _ A6.out).mono ?_);rintro e w' ⟨rfl,⟨nd,rfl⟩⟩))
      go_roundg k1
      case measure=>have:=HK1.out;omega
      case rel=>exact ⟨(wrap64 (x8_1+1)),jE,H',⟨jR⟩,jI⟩
     rw [if_neg c5] at H;exact absurd H (by simp)
    rw [if_neg c4] at H;exact absurd H (by simp)
   rw [if_neg c3] at H;have c3b0 : decide (x8_1<(l0.length : Int))=false:=decide_eq_false c3;clear c3;obtain rfl:=zU H
   go_wp2
   go_ret
   exact ⟨jE,jI⟩


def F0f.f (k : Nat) (l0 : List ByteArray)  : Option (Bool):=(Ft.f k l0).bind fun t414=>(some (decide (t414 ≥ 0)))
theorem F0f.mono : ∀ a0 k,LeO (F0f.f k a0) (F0f.f (k+1) a0):=by
 intro a0 k;unfold F0f.f
 repeat' first|(with_reducible first|exact Ft.mono _ _|exact zQ _|exact zN _|refine zP ?_ ?_|refine zO ?_ (fun _=>?_))|refine zP ?_ ?_|refine zO ?_ (fun _=>?_)
set_option maxHeartbeats 8000000 in
set_option maxRecDepth 100000 in
theorem F0f.calls (k : Nat) (A0 : Option Addr) (c0 : Nat) (l0 : List ByteArray)  (r : Bool) (w : World) (hr0 : Kd.C Kd.string w A0 l0.length l0) (hc0 : l0.length≤c0) (h : F0f.f k l0=some r) :
  Calls Try.prog 52 #[.slice A0 l0.length c0,.func (.func 53) #[] #[]] w fun e w' => e = .returned (.bool r)∧Drawn0 w w':=by
 have HR0:=zh hr0;have HC0:=zh hc0;clear hr0 hc0;have H : ((Ft.f k l0).bind fun t414=>(some (decide (t414 ≥ 0))))=some r:=h;clear h;replace H:=zT.mp H;obtain ⟨t414,A30,H⟩:=H;have A3:=zh A30;clear A30;obtain rfl:=zU H
 go_enter Try.func52,Try.ntmps52
 go_wp2_with (first|((with_reducible refine zJ (f:=65) rfl ?_);refine yj (some 7) rfl rfl Try.func65 jA rfl #[.slice A0 l0.length c0,.func (.func 53) #[] #[]] rfl jF ?_;(with_reducible refine (Ft.calls k  _ _ l0  t414 _ ?side1 ?side2 A3.out).mono ?_);(case side1=>repeat (first|exact HR0.out|(with_reducible refine Kd.C_alloc ?_ _)|(with_reducible refine Kd.C_drewN ?_ _)|(with_reducible refine Kd.C_drew ?_)));(case side2=>exact HC0.out);rintro e w' ⟨rfl,⟨nd,rfl⟩⟩;refine ⟨_,rfl,?_⟩))
 go_ret
 exact ⟨jE,jI⟩


def F02.f (k : Nat) (l0 : List ByteArray) : Option (Bool):=(F0f.f k l0).bind fun t415=>(some t415)
theorem F02.mono : ∀ a0 k,LeO (F02.f k a0) (F02.f (k+1) a0):=by
 intro a0 k;unfold F02.f
 repeat' first|(with_reducible first|exact F0f.mono _ _|exact zQ _|exact zN _|refine zP ?_ ?_|refine zO ?_ (fun _=>?_))|refine zP ?_ ?_|refine zO ?_ (fun _=>?_)
set_option maxHeartbeats 8000000 in
set_option maxRecDepth 100000 in
theorem F02.calls (k : Nat) (A0 : Option Addr) (c0 : Nat) (l0 : List ByteArray) (r : Bool) (w : World) (hr0 : Kd.C Kd.string w A0 l0.length l0) (hc0 : l0.length≤c0) (h : F02.f k l0=some r) :
  Calls Try.prog 31 #[.slice A0 l0.length c0] w fun e w' => e = .returned (.bool r)∧Below w.heap.size w w':=by
 have HR0:=zh hr0;have HC0:=zh hc0;clear hr0 hc0;have HB:=zh (Below.refl w.heap.size w);have H : ((F0f.f k l0).bind fun t415=>(some t415))=some r:=h;clear h;replace H:=zT.mp H;obtain ⟨t415,A20,H⟩:=H;have A2:=zh A20;clear A20;obtain rfl:=zU H
 go_enter Try.func31,Try.ntmps31
 go_wp2_with (first|((with_reducible refine zJ (f:=52) rfl ?_);refine yj (some 4) rfl rfl Try.func52 jA rfl #[.slice A0 l0.length c0,.func (.func 53) #[] #[]] rfl jF ?_;(with_reducible refine (F0f.calls k  _ _ l0  t415 _ ?side1 ?side2 A2.out).mono ?_);(case side1=>repeat (first|exact HR0.out|(with_reducible refine Kd.C_alloc ?_ _)|(with_reducible refine Kd.C_drewN ?_ _)|(with_reducible refine Kd.C_drew ?_)));(case side2=>exact HC0.out);rintro e w' ⟨rfl,⟨nd,rfl⟩⟩;refine ⟨_,rfl,?_⟩))
 go_ret
 exact ⟨jG,jH⟩


def F0i.f (k : Nat) (a0_0 : ByteArray) (a0_1 : ByteArray) (a0_2 : Bool) (a1 : ByteArray) : Option (Bool):=(F02.f k (([a1] : List ByteArray))).bind fun t420=>(if t420=true then (some false) else ((F0c.f a0_0 a0_1 a0_2 a1).bind fun t421=>(some t421)))
theorem F0i.mono : ∀ a0 a1 a2 a3 k,LeO (F0i.f k a0 a1 a2 a3) (F0i.f (k+1) a0 a1 a2 a3):=by
 intro a0 a1 a2 a3 k;unfold F0i.f
 repeat' first|(with_reducible first|exact F02.mono _ _|exact zQ _|exact zN _|refine zP ?_ ?_|refine zO ?_ (fun _=>?_))|refine zP ?_ ?_|refine zO ?_ (fun _=>?_)
set_option maxHeartbeats 8000000 in
set_option maxRecDepth 100000 in
theorem F0i.calls (k : Nat) (a0_0 : ByteArray) (a0_1 : ByteArray) (a0_2 : Bool) (a1 : ByteArray) (r : Bool) (w : World) (h : F0i.f k a0_0 a0_1 a0_2 a1=some r) :
  Calls Try.prog 12 #[.agg #[.string a0_0,.string a0_1,.bool a0_2],.string a1] w fun e w' => e = .returned (.bool r)∧Below w.heap.size w w':=by
 have hu32:=Try.underlying32;have HB:=zh (Below.refl w.heap.size w);have H : ((F02.f k (([a1] : List ByteArray))).bind fun t420=>(if t420=true then (some false) else ((F0c.f a0_0 a0_1 a0_2 a1).bind fun t421=>(some t421))))=some r:=h;clear h;obtain ⟨y417,hy417⟩ : ∃ y_ : List ByteArray,y_=(([a1] : List ByteArray)):=⟨_,rfl⟩;replace H : ((F02.f k y417).bind fun t420=>(if t420=true then (some false) else ((F0c.f a0_0 a0_1 a0_2 a1).bind fun t421=>(some t421))))=some r:=by first|(rw [hy417];with_reducible exact H)|(have H2_:=(Option.bind_some _ _).symm.trans H;rw [hy417];with_reducible exact H2_)|(have H2_:=(Option.bind_some _ _).symm.trans H;with_reducible exact H2_)|with_reducible exact H|(rw [hy417];exact H)|exact H
 have Ny417:=zh hy417;clear hy417;replace H:=zT.mp H;obtain ⟨t420,A30,H⟩:=H;have A3:=zh A30;clear A30
 by_cases c4 : t420=true
 ·
  subst c4
  rw [if_pos rfl] at H;obtain rfl:=zU H
  go_enter Try.func12,Try.ntmps12
  go_wp2_with (first|((with_reducible refine zK (N:=2) rfl ?_);refine zI ?hg (N:=2) ?hd (cs:=#[.string a0_0,.string a0_1,.bool a0_2]) (t:=32) ?hr ?_;(case hd=>rfl);(case hg=>rfl);(case hr=>go_simp <;> rfl);intro gb416 hg w5 hbox hb;have BK416:=zh (hbox);have hH_:=cH jH hb hg;have GW416:=zh hH_.1;have GE416:=GW416;replace HB:=zh hH_.2;clear hb hbox hg hH_)|((with_reducible refine zK (N:=6) rfl ?_);refine Kd.R_lit Kd.string _ 9 ?hg (N:=6) ?hd (xs:=([a1] : List ByteArray)) (inner:=[.string a1]) (ok:=fun _=>True) (okp:=fun _=>True) ?hr ?hp (fun _ hk=>hk) trivial (Below.refl _ _) (ye _) (by simp) ?_;(case hd=>rfl);(case hg=>rfl);(case hr=>go_simp <;> rfl);(case hp=>exact (Reps.one (show Kd.M Kd.string _ _ _ a1 [.string a1] from rfl) (Reps.none _ _)));intro v418 w6 ho7 hb hg_ hnew_;clear hg_ hnew_;(first|rw [← Ny417.out] at ho7|(simp only [Int.reduceToNat] at ho7;rw [← Ny417.out] at ho7));have HO419:=zh (yx ho7 (zB jAb));replace BK416:=zh (cD BK416.out jBX hb);replace HB:=zh (zC jAb hb);clear hb ho7;obtain ⟨Ao8,co8,eo8⟩:=yk HO419.out;subst eo8)|((with_reducible refine zJ (f:=31) rfl ?_);refine yj (some 7) rfl rfl Try.func31 jA rfl #[.slice Ao8 y417.length co8] rfl jF ?_;(with_reducible refine (F02.calls k  _ _ y417 true _ ?side1 ?side2 A3.out).mono ?_);(case side1=>repeat (first|exact (yh HO419.out).2.2|(with_reducible refine Kd.C_alloc ?_ _)|(with_reducible refine Kd.C_drewN ?_ _)|(with_reducible refine Kd.C_drew ?_)));(case side2=>exact (yh HO419.out).2.1);rintro e w9 ⟨rfl,hb⟩;refine ⟨_,rfl,?_⟩;replace HO419:=zh (yg jCs hb);replace BK416:=zh (cD BK416.out jBX hb);replace HB:=zh (zC jAb hb);(try clear hb);(try clear hb2);(try clear hk);(try clear hi)))
  go_ret
  exact ⟨jG,jAb⟩
 replace c4:=yb.mpr c4;subst c4;rw [if_neg (show ¬ (false=true) by decide)] at H;replace H:=zT.mp H;obtain ⟨t421,A100,H⟩:=H;have A10:=zh A100;clear A100;obtain rfl:=zU H
 go_enter Try.func12,Try.ntmps12
 go_wp2_with (first|((with_reducible refine zK (N:=2) rfl ?_);refine zI ?hg (N:=2) ?hd (cs:=#[.string a0_0,.string a0_1,.bool a0_2]) (t:=32) ?hr ?_;(case hd=>rfl);(case hg=>rfl);(case hr=>go_simp <;> rfl);intro gb416 hg w11 hbox hb;have BK416:=zh (hbox);have hH_:=cH jH hb hg;have GW416:=zh hH_.1;have GE416:=GW416;replace HB:=zh hH_.2;clear hb hbox hg hH_)|((with_reducible refine zK (N:=6) rfl ?_);refine Kd.R_lit Kd.string _ 9 ?hg (N:=6) ?hd (xs:=([a1] : List ByteArray)) (inner:=[.string a1]) (ok:=fun _=>True) (okp:=fun _=>True) ?hr ?hp (fun _ hk=>hk) trivial (Below.refl _ _) (ye _) (by simp) ?_;(case hd=>rfl);(case hg=>rfl);(case hr=>go_simp <;> rfl);(case hp=>exact (Reps.one (show Kd.M Kd.string _ _ _ a1 [.string a1] from rfl) (Reps.none _ _)));intro v418 w12 ho13 hb hg_ hnew_;clear hg_ hnew_;(first|rw [← Ny417.out] at ho13|(simp only [Int.reduceToNat] at ho13;rw [← Ny417.out] at ho13));have HO419:=zh (yx ho13 (zB jAb));replace BK416:=zh (cD BK416.out jBX hb);replace HB:=zh (zC jAb hb);clear hb ho13;obtain ⟨Ao14,co14,eo14⟩:=yk HO419.out;subst eo14)|((with_reducible refine zJ (f:=31) rfl ?_);refine yj (some 7) rfl rfl Try.func31 jA rfl #[.slice Ao14 y417.length co14] rfl jF ?_;(with_reducible refine (F02.calls k  _ _ y417 false _ ?side1 ?side2 A3.out).mono ?_);(case side1=>repeat (first|exact (yh HO419.out).2.2|(with_reducible refine Kd.C_alloc ?_ _)|(with_reducible refine Kd.C_drewN ?_ _)|(with_reducible refine Kd.C_drew ?_)));(case side2=>exact (yh HO419.out).2.1);rintro e w15 ⟨rfl,hb⟩;refine ⟨_,rfl,?_⟩;replace HO419:=zh (yg jCs hb);replace BK416:=zh (cD BK416.out jBX hb);replace HB:=zh (zC jAb hb);(try clear hb);(try clear hb2);(try clear hk);(try clear hi);obtain ⟨hcz16_0,hcz16_1,hcz16_2,hfz16_0,hfz16_1,hfz16_2⟩:=cB3 BK416.out)|(go_at_call 27;(with_reducible refine (F0c.calls  a0_0 a0_1 a0_2 a1 t421 _ A10.out).mono ?_);rintro e w17 ⟨rfl,hb⟩;replace HO419:=zh (yg jCs hb);replace BK416:=zh (cD BK416.out jBX hb);replace HB:=zh (zC jAb hb);(try clear hb);(try clear hb2);(try clear hk);(try clear hi)))
 go_ret
 exact ⟨jG,jAb⟩


def F0l.f (k : Nat) (l0_0 : List (S60)) (a0_1 : Int) (a1_0 : ByteArray) (a1_1 : ByteArray) (a1_2 : Bool) : Option ((List (S28))×List Int×Int):=(F4.f k l0_0 a0_1).bind fun t395=>(if t395=true then ((F5.f k l0_0 a0_1 a1_0 a1_1 a1_2).bind fun bt396=>(some (bt396.1,bt396.2,0))) else (some ((([] : List (S28))),(([] : List Int)),1)))
theorem F0l.mono : ∀ a0 a1 a2 a3 a4 k,LeO (F0l.f k a0 a1 a2 a3 a4) (F0l.f (k+1) a0 a1 a2 a3 a4):=by
 intro a0 a1 a2 a3 a4 k;unfold F0l.f
 repeat' first|(with_reducible first|exact F4.mono _ _ _|exact F5.mono _ _ _ _ _ _|exact zQ _|exact zN _|refine zP ?_ ?_|refine zO ?_ (fun _=>?_))|refine zP ?_ ?_|refine zO ?_ (fun _=>?_)
set_option maxHeartbeats 8000000 in
set_option maxRecDepth 100000 in
theorem F0l.calls (k : Nat) (A0_0 : Option Addr) (c0_0 : Nat) (l0_0 : List (S60)) (a0_1 : Int) (a1_0 : ByteArray) (a1_1 : ByteArray) (a1_2 : Bool) (r1 : List (S28)) (r2 : List Int) (r3 : Int) (w : World) (hr0_0 : Kd.C k60 w A0_0 l0_0.length l0_0) (hc0_0 : l0_0.length≤c0_0) (h : F0l.f k l0_0 a0_1 a1_0 a1_1 a1_2=some (r1,r2,r3)) :
  Calls Try.prog 9 #[.agg #[.slice A0_0 l0_0.length c0_0,.int .i64 a0_1],.agg #[.string a1_0,.string a1_1,.bool a1_2]] w fun e w' => ∃ v0_ v1_ : Value,e = .returned (.tuple #[v0_,v1_,.int .i64 r3])∧Kd.R k28 28 w' w.heap.size (fun _=>True) v0_ r1∧Kd.R (Kd.int .i64) 3 w' w.heap.size (fun _=>True) v1_ r2∧Below w.heap.size w w':=by
 have hu25:=Try.underlying25;have hu32:=Try.underlying32;have HR0_0:=zh hr0_0;have HC0_0:=zh hc0_0;clear hr0_0 hc0_0;have HB:=zh (Below.refl w.heap.size w);have H : ((F4.f k l0_0 a0_1).bind fun t395=>(if t395=true then ((F5.f k l0_0 a0_1 a1_0 a1_1 a1_2).bind fun bt396=>(some (bt396.1,bt396.2,0))) else (some ((([] : List (S28))),(([] : List Int)),1))))=some (r1,r2,r3):=h;clear h;replace H:=zT.mp H;obtain ⟨t395,A30,H⟩:=H;have A3:=zh A30;clear A30
 by_cases c4 : t395=true
 ·
  subst c4
  rw [if_pos rfl] at H;replace H:=zT.mp H;obtain ⟨⟨t396,t399⟩,A50,H⟩:=H;have A5:=zh A50;clear A50;simp only [Option.some.injEq,Prod.mk.injEq] at H;obtain ⟨rfl,rfl,rfl⟩:=H
  go_enter Try.func9,Try.ntmps9
  go_wp2_with (first|((with_reducible refine zK (N:=2) rfl ?_);refine zI ?hg (N:=2) ?hd (cs:=#[.slice A0_0 l0_0.length c0_0,.int .i64 a0_1]) (t:=25) ?hr ?_;(case hd=>rfl);(case hg=>rfl);(case hr=>go_simp <;> rfl);intro gb393 hg w6 hbox hb;have BK393:=zh (hbox);have hH_:=cH jH hb hg;have GW393:=zh hH_.1;have GE393:=GW393;replace HB:=zh hH_.2;clear hb hbox hg hH_)|((with_reducible refine zK (N:=3) rfl ?_);refine zI ?hg (N:=3) ?hd (cs:=#[.string a1_0,.string a1_1,.bool a1_2]) (t:=32) ?hr ?_;(case hd=>rfl);(case hg=>rfl);(case hr=>go_simp <;> rfl);intro gb394 hg w7 hbox hb;have BK394:=zh (hbox);have hH_:=cH jD2 hb hg;have GW394:=zh hH_.1;have GE394:=GW394;replace HB:=zh hH_.2;have NB393_394:=zh ((jD3 : gb393≠gb394));have NB394_393:=zh NB393_394.out.symm;replace BK393:=zh (cD BK393.out jAm hb);clear hb hbox hg hH_;have hnb8:=NB393_394.out;have hnc8:=NB394_393.out;obtain ⟨hcz9_0,hcz9_1,hfz9_0,hfz9_1⟩:=cB2 BK393.out)|((with_reducible refine zJ (f:=29) rfl ?_);refine yj (some 10) rfl rfl Try.func29 jA rfl #[.agg #[.slice A0_0 l0_0.length c0_0,.int .i64 a0_1]] rfl jF ?_;(with_reducible refine (F4.calls k  _ _ l0_0 a0_1 true _ ?side1 ?side2 A3.out).mono ?_);(case side1=>repeat (first|exact (Kd.C_below HR0_0.out HB.out)|(with_reducible refine Kd.C_alloc ?_ _)|(with_reducible refine Kd.C_drewN ?_ _)|(with_reducible refine Kd.C_drew ?_)));(case side2=>exact HC0_0.out);rintro e w10 ⟨rfl,hb⟩;refine ⟨_,rfl,?_⟩;replace BK393:=zh (cD BK393.out jAm hb);replace BK394:=zh (cD BK394.out jBY hb);replace HB:=zh (zC jAH hb);(try clear hb);(try clear hb2);(try clear hk);(try clear hi);obtain ⟨hcz11_0,hcz11_1,hfz11_0,hfz11_1⟩:=cB2 BK393.out;obtain ⟨hcz12_0,hcz12_1,hcz12_2,hfz12_0,hfz12_1,hfz12_2⟩:=cB3 BK394.out)|((with_reducible refine zJ (f:=30) rfl ?_);refine yj (some 17) rfl rfl Try.func30 jA rfl #[.agg #[.slice A0_0 l0_0.length c0_0,.int .i64 a0_1],.agg #[.string a1_0,.string a1_1,.bool a1_2]] rfl jF ?_;(with_reducible refine (F5.calls k  _ _ l0_0 a0_1 a1_0 a1_1 a1_2 t396 t399 _ ?side1 ?side2 A5.out).mono ?_);(case side1=>repeat (first|exact (Kd.C_below HR0_0.out HB.out)|(with_reducible refine Kd.C_alloc ?_ _)|(with_reducible refine Kd.C_drewN ?_ _)|(with_reducible refine Kd.C_drew ?_)));(case side2=>exact HC0_0.out);rintro e w13 ⟨v397,v400,rfl,ho0,ho1,hb⟩;refine ⟨_,rfl,?_⟩;have HO398:=zh (yx ho0 (zB jAH));have HO401:=zh (yx ho1 (zB jAH));replace BK393:=zh (cD BK393.out jAm hb);replace BK394:=zh (cD BK394.out jBY hb);replace HB:=zh (zC jAH hb);(try clear hb);(try clear hb2);(try clear hk);(try clear hi);(try clear ho0);(try clear ho1)))
  go_ret3
  exact ⟨_,_,jG,by (with_reducible repeat (first|apply zm|apply zn|apply zo));exact HO398.out,by (with_reducible repeat (first|apply zm|apply zn|apply zo));exact HO401.out,jAH⟩
 replace c4:=yb.mpr c4;subst c4;rw [if_neg (show ¬ (false=true) by decide)] at H;obtain ⟨y402,hy402⟩ : ∃ y_ : List (S28),y_=(([] : List (S28))):=⟨_,rfl⟩;replace H : (some (y402,(([] : List Int)),1))=some (r1,r2,r3):=by first|(rw [hy402];with_reducible exact H)|(have H2_:=(Option.bind_some _ _).symm.trans H;rw [hy402];with_reducible exact H2_)|(have H2_:=(Option.bind_some _ _).symm.trans H;with_reducible exact H2_)|with_reducible exact H|(rw [hy402];exact H)|exact H
 have Ny402:=zh hy402;clear hy402;obtain ⟨y405,hy405⟩ : ∃ y_ : List Int,y_=(([] : List Int)):=⟨_,rfl⟩;replace H : (some (y402,y405,1))=some (r1,r2,r3):=by first|(rw [hy405];with_reducible exact H)|(have H2_:=(Option.bind_some _ _).symm.trans H;rw [hy405];with_reducible exact H2_)|(have H2_:=(Option.bind_some _ _).symm.trans H;with_reducible exact H2_)|with_reducible exact H|(rw [hy405];exact H)|exact H
 have Ny405:=zh hy405;clear hy405;simp only [Option.some.injEq,Prod.mk.injEq] at H;obtain ⟨rfl,rfl,rfl⟩:=H
 go_enter Try.func9,Try.ntmps9
 go_wp2_with (first|((with_reducible refine zK (N:=2) rfl ?_);refine zI ?hg (N:=2) ?hd (cs:=#[.slice A0_0 l0_0.length c0_0,.int .i64 a0_1]) (t:=25) ?hr ?_;(case hd=>rfl);(case hg=>rfl);(case hr=>go_simp <;> rfl);intro gb393 hg w14 hbox hb;have BK393:=zh (hbox);have hH_:=cH jH hb hg;have GW393:=zh hH_.1;have GE393:=GW393;replace HB:=zh hH_.2;clear hb hbox hg hH_)|((with_reducible refine zK (N:=3) rfl ?_);refine zI ?hg (N:=3) ?hd (cs:=#[.string a1_0,.string a1_1,.bool a1_2]) (t:=32) ?hr ?_;(case hd=>rfl);(case hg=>rfl);(case hr=>go_simp <;> rfl);intro gb394 hg w15 hbox hb;have BK394:=zh (hbox);have hH_:=cH jD2 hb hg;have GW394:=zh hH_.1;have GE394:=GW394;replace HB:=zh hH_.2;have NB393_394:=zh ((jD3 : gb393≠gb394));have NB394_393:=zh NB393_394.out.symm;replace BK393:=zh (cD BK393.out jAm hb);clear hb hbox hg hH_;have hnb16:=NB393_394.out;have hnc16:=NB394_393.out;obtain ⟨hcz17_0,hcz17_1,hfz17_0,hfz17_1⟩:=cB2 BK393.out)|((with_reducible refine zJ (f:=29) rfl ?_);refine yj (some 10) rfl rfl Try.func29 jA rfl #[.agg #[.slice A0_0 l0_0.length c0_0,.int .i64 a0_1]] rfl jF ?_;(with_reducible refine (F4.calls k  _ _ l0_0 a0_1 false _ ?side1 ?side2 A3.out).mono ?_);(case side1=>repeat (first|exact (Kd.C_below HR0_0.out HB.out)|(with_reducible refine Kd.C_alloc ?_ _)|(with_reducible refine Kd.C_drewN ?_ _)|(with_reducible refine Kd.C_drew ?_)));(case side2=>exact HC0_0.out);rintro e w18 ⟨rfl,hb⟩;refine ⟨_,rfl,?_⟩;replace BK393:=zh (cD BK393.out jAm hb);replace BK394:=zh (cD BK394.out jBY hb);replace HB:=zh (zC jAH hb);(try clear hb);(try clear hb2);(try clear hk);(try clear hi))|((with_reducible refine zK (N:=12) rfl ?_);refine Kd.R_lit k28 _ 28 ?hg (N:=12) ?hd (xs:=([] : List (S28))) (inner:=[]) (ok:=fun _=>True) (okp:=fun _=>True) ?hr ?hp (fun _ hk=>hk) trivial (Below.refl _ _) (ye _) (by simp) ?_;(case hd=>rfl);(case hg=>rfl);(case hr=>go_simp <;> rfl);(case hp=>exact (Reps.none _ _));intro v403 w19 ho20 hb hg_ hnew_;clear hg_ hnew_;(first|rw [← Ny402.out] at ho20|(simp only [Int.reduceToNat] at ho20;rw [← Ny402.out] at ho20));have HO404:=zh (yx ho20 (zB jAH));replace BK393:=zh (cD BK393.out jAm hb);replace BK394:=zh (cD BK394.out jBY hb);replace HB:=zh (zC jAH hb);clear hb ho20)|((with_reducible refine zK (N:=13) rfl ?_);refine Kd.R_lit (Kd.int .i64) _ 3 ?hg (N:=13) ?hd (xs:=([] : List Int)) (inner:=[]) (ok:=fun _=>True) (okp:=fun _=>True) ?hr ?hp (fun _ hk=>hk) trivial (Below.refl _ _) (ye _) (by simp) ?_;(case hd=>rfl);(case hg=>rfl);(case hr=>go_simp <;> rfl);(case hp=>exact (Reps.none _ _));intro v406 w21 ho22 hb hg_ hnew_;clear hg_ hnew_;(first|rw [← Ny405.out] at ho22|(simp only [Int.reduceToNat] at ho22;rw [← Ny405.out] at ho22));replace HO404:=zh (yg jD4 hb);have HO407:=zh (yx ho22 (zB jAH));replace BK393:=zh (cD BK393.out jAm hb);replace BK394:=zh (cD BK394.out jBY hb);replace HB:=zh (zC jAH hb);clear hb ho22))
 go_ret3
 exact ⟨_,_,jG,jD4,by (with_reducible repeat (first|apply zm|apply zn|apply zo));exact HO407.out,jAH⟩

end Go.Proofs.Ytgifonogfgpjdaa.Q
end
section
namespace Go.Proofs.Ytgifonogfgpjdaa.Pure
open Go Go.RowKit Go.Proofs.Ytgifonogfgpjdaa.Q Go.Proofs.YtgifonogfgpjdaaW.PrintWords Go.Proofs.YtgifonogfgpjdaaW.PrintLast Go.Proofs.YtgifonogfgpjdaaW.PrintMore Go.Proofs.YtgifonogfgpjdaaW.Pl
def nam (T : List IPag) (lo hi : ByteArray) (op : Bool) : List Int:=(ranged hi op (T.drop (place ⟨lo,-1⟩ 0 0 T).toNat)).map (·.f0)
theorem range_both (T : List IPag) (n : Int) (lo hi : ByteArray) (op : Bool) (hT : T.length≤1048576) (hf : (T.flatMap (·.f1)).length≤1048576) (hp : ∀ p ∈ T,p.f1.length≤1048576) (hk : tok T n=true) :
  Eve (fun k=>F0l.f k T n lo hi op) (fl lo hi op (T.flatMap (·.f1)),nam T lo hi op,0)∧Eve (fun k=>F9.f k T n lo hi op) (fl lo hi op (T.flatMap (·.f1)),nam T lo hi op,0)∧(fl lo hi op (T.flatMap (·.f1))).length≤1048576∧(nam T lo hi op).length≤1048576:=by
 have hk':=hk;simp only [tok,inr,Bool.and_eq_true,decide_eq_true_eq] at hk;have h0 : 0<T.length:=by omega
 have hin:=place_in ⟨lo,-1⟩ T 0 0 (by omega) (by omega)
 have hmr : ∀ ps : List IPag,(ranged hi op ps).length≤ps.length:=by
  have ht : ∀ ps : List IPag,(taken hi op ps).length≤ps.length:=by
   intro ps
   induction ps with
   | nil=>simp [taken]
   | cons p ps ih =>
    unfold taken
    split
    ·
     simp
    simpa using ih
  intro ps
  cases ps with
  | nil=>simp [ranged]
  | cons p ps=>simpa [ranged] using ht ps
 unfold nam;refine ⟨?_,?_,?_,?_⟩
 ·
  simp only [F0l.f]
  refine Eve.bind (specOK_tells _ n hT hp) ?_;simp only [if_pos hk'];refine Eve.bind (range_spec _ n lo hi op hT hf h0) (Eve.one.eq ?_);have:=range_all (lo:=lo) (hi:=hi) (op:=op) T hk.2.2.2;simp only [fl,this]
 ·
  simp only [F9.f]
  refine Eve.bind (implOK_tells _ n hT hf) ?_;simp only [if_pos hk'];refine Eve.bind (entries_tells _ n hT hf) ?_
  have hd : F8.f (T.flatMap (·.f1)) lo hi op=some (fl lo hi op (T.flatMap (·.f1))):=by
   unfold F8.f;rw [if_pos (by omega)]
   rfl
  rw [hd];simp only [Option.bind_some];refine Eve.bind (place_impl T n ⟨lo,-1⟩ hT) ?_;refine Eve.ite (fun _=>?_) (fun h4=>absurd hin.1 h4);refine Eve.ite (fun _=>?_) (fun h4=>absurd (by omega) h4);refine range_impl _ _ lo hi op (by rw [List.length_drop];omega) (fun j hj h5=>?_);rw [List.length_drop] at hj;rw [List.getElem_drop];exact poks_in T n [] T hk.2.2.1 _ (List.getElem_mem _) (by omega)
 ·
  exact Nat.le_trans (List.length_filter_le _ _) hf
 rw [List.length_map];refine Nat.le_trans (hmr _) ?_;rw [List.length_drop];omega
theorem cross {T : List IPag} (hr : Rise (T.flatMap (·.f1))) (x y : Nat) (hx : x<T.length) (hy : y<T.length) (h : x<y) (a b : IEnt) (ha : a ∈ T[x].f1) (hb : b ∈ T[y].f1) : el a b=true:=by
 have h1:=(List.pairwise_flatMap.1 hr).2;exact List.pairwise_iff_getElem.1 h1 x y hx hy h a ha b hb
theorem taken_in (hi : ByteArray) (op : Bool) : ∀ (ps : List IPag) (i : Nat) (h : i<ps.length),(∀ m (hm : m<ps.length),m≤i→stop hi op ps[m]=false)→ps[i] ∈ taken hi op ps
 | [],_,h,_=>by simp at h
 | p :: ps,i,h,hs=>by
  have h0:=hs 0 (by simp) (by omega);simp only [List.getElem_cons_zero] at h0;unfold taken;rw [if_neg (by rw [h0];decide)]
  cases i with
  | zero=>simp
  | succ i =>
   simp only [List.getElem_cons_succ];exact List.mem_cons_of_mem _ (taken_in hi op ps i (by simpa using h) (fun m hm hmi=>by have:=hs (m+1) (by simpa using hm) (by omega);simpa using this))
theorem not_less {e f : IEnt} {hi : ByteArray} (h1 : ¬ el e f=true) (h2 : Op.bytesLess e.f0.toList hi.toList=true) : Op.bytesLess f.f0.toList hi.toList=true:=by
 unfold el at h1;simp only [Bool.or_eq_true,not_or] at h1
 by_cases he : e.f0.toList=f.f0.toList
 ·
  rw [← he];exact h2
 exact bl_trans (bl_total h1.1 he) h2
theorem named {T : List IPag} {n : Int} (hw : WF T n) {lo hi : ByteArray} {op : Bool} (e : IEnt) (he : e ∈ T.flatMap (·.f1)) (hh : ihas lo hi op e.f0=true) : (pageN T e).f0 ∈ nam T lo hi op:=by
 have h0:=hw.len.1;have hr:=hw.rise;have hek:=hw.ok e he;have hj:=(pg_lt e h0).1;have hb:=(pg_lt ⟨lo,-1⟩ h0).1
 have hlo : el ⟨lo,-1⟩ e=true:=by
  have h1 : ¬ Op.bytesLess e.f0.toList lo.toList=true:=fun h=>by unfold ihas at hh;rw [if_pos h] at hh;cases hh
  unfold el;simp only [Bool.or_eq_true,Bool.and_eq_true,decide_eq_true_eq]
  by_cases h2 : e.f0.toList=lo.toList
  ·
   unfold eok inr at hek
   simp only [Bool.and_eq_true,decide_eq_true_eq] at hek;exact .inr ⟨h2.symm,by omega⟩
  exact .inl (bl_total h1 h2)
 have hmono : pgN T ⟨lo,-1⟩≤pgN T e:=by
  rcases Nat.lt_or_ge (pgN T e) (pgN T ⟨lo,-1⟩) with h|h
  ·
   exfalso
   obtain ⟨f,fs,hf,hl⟩:=page_first ⟨lo,-1⟩ h0 (by omega);rw [pageN_at _ h0] at hf;exact hl (el_trans hlo (page_behind e h0 _ hb h f fs hf))
  exact h
 have hstop : ∀ x (hx : x<T.length),pgN T ⟨lo,-1⟩<x→x≤pgN T e→stop hi op T[x]=false:=by
  intro x hx h1 h2;unfold stop
  cases op with
  | true=>rfl
  | false =>
   have hlt : Op.bytesLess e.f0.toList hi.toList=true:=by
    unfold ihas at hh
    split at hh
    ·
     cases hh
    simpa using hh
   cases hc : T[x].f1 with
   | nil=>rfl
   | cons f fs =>
    have hne : ¬ el e f=true:=by
     obtain ⟨f',fs',hf',hl⟩:=page_first e h0 (by omega);rw [pageN_at e h0] at hf';rcases Nat.lt_or_eq_of_le h2 with h|h
     ·
      intro h3
      exact hl (el_trans h3 (cross hr x (pgN T e) hx hj h f f' (by rw [hc];simp) (by rw [hf'];simp)))
     subst h;rw [hc] at hf';injection hf' with e1 _;rw [e1];exact hl
    simp only [not_less hne hlt];rfl
 unfold nam;rw [pageN_at e h0,show (place ⟨lo,-1⟩ 0 0 T).toNat=pgN T ⟨lo,-1⟩ from rfl,drop_at T _ hb];refine List.mem_map_of_mem (f:=fun p : IPag=>p.f0) ?_;unfold ranged;rcases Nat.lt_or_eq_of_le hmono with h|h
 ·
  refine List.mem_cons_of_mem _ ?_
  have hl : pgN T e - (pgN T ⟨lo,-1⟩+1)<(T.drop (pgN T ⟨lo,-1⟩+1)).length:=by rw [List.length_drop];omega
  have:=taken_in hi op (T.drop (pgN T ⟨lo,-1⟩+1)) (pgN T e - (pgN T ⟨lo,-1⟩+1)) hl (fun m hm hmi=>by
   rw [List.length_drop] at hm;rw [List.getElem_drop]
   exact hstop _ (by omega) (by omega) (by omega))
  rw [List.getElem_drop] at this
  simpa only [show pgN T ⟨lo,-1⟩+1+(pgN T e - (pgN T ⟨lo,-1⟩+1))=pgN T e by omega] using this
 simp only [h];exact List.mem_cons_self
theorem has_tells (lo hi : ByteArray) (op : Bool) (t : ByteArray) (ht : t.size≤65536) : Eve (fun k=>F0i.f k lo hi op t) (ihas lo hi op t):=by
 simp only [F0i.f,F02.f,F0f.f,Ft.f];refine Eve.bind (v:=false) (Eve.bind (v:=false) (Eve.bind (v:=(-1 : Int)) ?_ (Eve.one.eq (by decide))) Eve.one) ?_
 ·
  refine ev_loop0 [t] (fun k (_ : Unit) i=>Ft.l0 k [t] (([t] : List ByteArray).length : Int) i) (fun _ _ _=>(-1 : Int)) (fun _ _=>True) (fun _ _=>?_) (fun i hi s _ ih=>?_) () trivial
  ·
   simp only [Ft.l0]
   exact Eve.ite (fun h=>absurd h (by omega)) (fun _=>Eve.one)
  have hi0 : i=0:=by simp at hi;omega
  subst hi0;have hr : rdOf ByteArray.empty [t] ((0 : Nat) : Int)=t:=rdOf_at _ _ 0 hi;simp only [Ft.l0,hr,F0q.f,Option.bind_some,wi (show 0≤9223372036854775806 by omega)];refine Eve.ite (fun _=>?_) (fun h=>absurd (by simp) h);refine Eve.ite (fun _=>?_) (fun h=>absurd (by omega) h);refine Eve.ite (fun _=>?_) (fun h=>absurd (by simp) h);refine Eve.ite (fun h=>absurd (of_decide_eq_true h) (by omega)) (fun _=>ih () trivial)
 simp only [Bool.false_eq_true,if_false]
 have : F0c.f lo hi op t=some (ihas lo hi op t):=by
  unfold F0c.f ihas
  split
  ·
   rfl
  split <;> rfl
 rw [this];exact Eve.one
theorem pageAt_tells (T : List IPag) (n : Int) (e : IEnt) (hT : T.length≤1048576) (hf : (T.flatMap (·.f1)).length≤1048576) (hk : tok T n=true) (he : eok e=true) (h0 : 0<T.length) : Eve (fun k=>Fp.f k T n e.f0 e.f1) ((pageN T e).f0,0):=by
 have hin:=place_in e T 0 0 (by omega) (by omega);simp only [Fp.f];refine Eve.bind (implOK_tells T n hT hf) ?_;rw [eok_impl];simp only [if_pos hk,if_pos he,Option.bind_some];refine Eve.bind (place_impl T n e hT) ?_;refine Eve.ite (fun _=>?_) (fun h=>absurd hin.1 h);refine Eve.ite (fun _=>?_) (fun h=>absurd (by omega) h);rw [rd_page e h0];exact Eve.one
theorem sameE_self (l : List IEnt) (hl : l.length≤1048576) : Eve (fun k=>Fq.f k l l) true:=by
 simp only [Fq.f,if_true];refine ev_loop0 l (fun k (_ : Unit) i=>Fq.l0 k l l i) (fun _ _ _=>true) (fun _ _=>True) (fun _ _=>?_) (fun i hi s _ ih=>?_) () trivial
 ·
  simp only [Fq.l0]
  exact Eve.ite (fun h=>absurd h (by omega)) (fun _=>Eve.one)
 simp only [Fq.l0,wi (show i≤9223372036854775806 by omega)];refine Eve.ite (fun _=>?_) (fun h=>absurd (by omega) h);refine Eve.ite (fun _=>?_) (fun h=>absurd (by omega) h);refine Eve.ite (fun _=>?_) (fun h=>absurd (by omega) h);exact Eve.ite (fun h=>absurd h (by simp)) (fun _=>ih () trivial)
end Go.Proofs.Ytgifonogfgpjdaa.Pure
end
section
namespace Go.Proofs.Ytgifonogfgpjdaa.Q
open Go.RowKit Go.Proofs.YtgifonogfgpjdaaW.PrintWords Go.Proofs.YtgifonogfgpjdaaW.PrintLast Go.Proofs.YtgifonogfgpjdaaW.PrintMore
attribute [local go_sem] max2_int min2_int max_two min_two max_three min_three max_four min_four max2_str min2_str str_geq str_gtr str_leq
set_option linter.unusedVariables false
set_option linter.unusedSimpArgs false

def F0r.f (l0 : List Int) (a1 : Int) (a2 : Int) : Option (Int):=if a2≤1 then (some 0) else (if (l0.length : Int)=0 then (if a2=0 then (none) else (some (Int.tmod (wrap64 (a1*7)) a2))) else (if 0≤(Int.tmod a1 (l0.length : Int)) then (if (Int.tmod a1 (l0.length : Int))<(l0.length : Int) then (if 0≤(Int.tmod (wrap64 (a1+1)) (l0.length : Int)) then (if (Int.tmod (wrap64 (a1+1)) (l0.length : Int))<(l0.length : Int) then (if a2=0 then (none) else (some (Int.tmod (wrap64 ((wrap64 ((wrap64 ((wrap64 (rd l0 (Int.tmod a1 (l0.length : Int))))*31))+(wrap64 (rd l0 (Int.tmod (wrap64 (a1+1)) (l0.length : Int))))))+(wrap64 (Int.tdiv a1 (l0.length : Int))))) a2))) else (none)) else (none)) else (none)) else (none)))
set_option maxHeartbeats 8000000 in
set_option maxRecDepth 100000 in
theorem F0r.calls (A0 : Option Addr) (c0 : Nat) (l0 : List Int) (a1 : Int) (a2 : Int) (r : Int) (w : World) (hr0 : Kd.C (Kd.int .u8) w A0 l0.length l0) (hc0 : l0.length≤c0) (h : F0r.f l0 a1 a2=some r) :
  Calls Try.prog 7 #[.slice A0 l0.length c0,.int .i64 a1,.int .i64 a2] w fun e w' => e = .returned (.int .i64 r)∧Drawn0 w w':=by
 have HR0:=zh hr0;have HC0:=zh hc0;clear hr0 hc0;have H : (if a2≤1 then (some 0) else (if (l0.length : Int)=0 then (if a2=0 then (none) else (some (Int.tmod (wrap64 (a1*7)) a2))) else (if 0≤(Int.tmod a1 (l0.length : Int)) then (if (Int.tmod a1 (l0.length : Int))<(l0.length : Int) then (if 0≤(Int.tmod (wrap64 (a1+1)) (l0.length : Int)) then (if (Int.tmod (wrap64 (a1+1)) (l0.length : Int))<(l0.length : Int) then (if a2=0 then (none) else (some (Int.tmod (wrap64 ((wrap64 ((wrap64 ((wrap64 (rd l0 (Int.tmod a1 (l0.length : Int))))*31))+(wrap64 (rd l0 (Int.tmod (wrap64 (a1+1)) (l0.length : Int))))))+(wrap64 (Int.tdiv a1 (l0.length : Int))))) a2))) else (none)) else (none)) else (none)) else (none))))=some r:=h;clear h
 by_cases c4 : a2≤1
 ·
  rw [if_pos c4] at H
  have c4b0 : decide (a2≤1)=true:=decide_eq_true c4;clear c4;obtain rfl:=zU H
  go_enter Try.func7,Try.ntmps7
  go_wp2
  repeat (go_quiet (fail);try go_wp2)
  go_ret
  exact ⟨jE,jI⟩
 rw [if_neg c4] at H;have c4b0 : decide (a2≤1)=false:=decide_eq_false c4;clear c4
 by_cases c5 : (l0.length : Int)=0
 ·
  rw [if_pos c5] at H
  have c5b0 : ((l0.length : Int) == 0)=true:=ya.mpr c5;have c5b1 : ((l0.length : Int) != 0)=false:=zX.mpr c5;clear c5
  by_cases c6 : a2=0
  ·
   rw [if_pos c6] at H
   exact absurd H (by simp)
  rw [if_neg c6] at H;have c6b0 : (a2 == 0)=false:=zY.mpr c6;have c6b1 : (a2 != 0)=true:=zZ.mpr c6;obtain rfl:=zU H
  go_enter Try.func7,Try.ntmps7
  go_wp2
  repeat (go_quiet (fail);try go_wp2)
  go_ret
  exact ⟨jE,jI⟩
 rw [if_neg c5] at H;have c5b0 : ((l0.length : Int) == 0)=false:=zY.mpr c5;have c5b1 : ((l0.length : Int) != 0)=true:=zZ.mpr c5;have c5b2 : ¬ (l0=[]):=fun h_=>c5 (by rw [h_];rfl);obtain ⟨ji7,hji7⟩ : ∃ j_ : Int,(Int.tmod a1 (l0.length : Int))=j_:=⟨_,rfl⟩;replace H : (if 0≤(ji7) then (if (ji7)<(l0.length : Int) then (if 0≤(Int.tmod (wrap64 (a1+1)) (l0.length : Int)) then (if (Int.tmod (wrap64 (a1+1)) (l0.length : Int))<(l0.length : Int) then (if a2=0 then (none) else (some (Int.tmod (wrap64 ((wrap64 ((wrap64 ((wrap64 (rd l0 (ji7)))*31))+(wrap64 (rd l0 (Int.tmod (wrap64 (a1+1)) (l0.length : Int))))))+(wrap64 (Int.tdiv a1 (l0.length : Int))))) a2))) else (none)) else (none)) else (none)) else (none))=some r:=by first|(rw [hji7] at H;exact H)|(simp only [hji7] at H ⊢;exact H)
 by_cases c8 : 0≤(ji7)
 ·
  rw [if_pos c8] at H
  have c8b0 : decide (0≤(ji7))=true:=decide_eq_true c8;clear c8
  by_cases c9 : (ji7)<(l0.length : Int)
  ·
   rw [if_pos c9] at H
   have c9b0 : decide ((ji7)<(l0.length : Int))=true:=decide_eq_true c9;clear c9;obtain ⟨ji10,hji10⟩ : ∃ j_ : Int,(Int.tmod (wrap64 (a1+1)) (l0.length : Int))=j_:=⟨_,rfl⟩;replace H : (if 0≤(ji10) then (if (ji10)<(l0.length : Int) then (if a2=0 then (none) else (some (Int.tmod (wrap64 ((wrap64 ((wrap64 ((wrap64 (rd l0 (ji7)))*31))+(wrap64 (rd l0 (ji10)))))+(wrap64 (Int.tdiv a1 (l0.length : Int))))) a2))) else (none)) else (none))=some r:=by first|(rw [hji10] at H;exact H)|(simp only [hji10] at H ⊢;exact H)
   by_cases c11 : 0≤(ji10)
   ·
    rw [if_pos c11] at H
    have c11b0 : decide (0≤(ji10))=true:=decide_eq_true c11;clear c11
    by_cases c12 : (ji10)<(l0.length : Int)
    ·
     rw [if_pos c12] at H
     have c12b0 : decide ((ji10)<(l0.length : Int))=true:=decide_eq_true c12;clear c12
     by_cases c13 : a2=0
     ·
      rw [if_pos c13] at H
      exact absurd H (by simp)
     rw [if_neg c13] at H;have c13b0 : (a2 == 0)=false:=zY.mpr c13;have c13b1 : (a2 != 0)=true:=zZ.mpr c13;obtain rfl:=zU H;have p266 : 0≤((ji7) : Int):=zy jC;have q266 : (ji7)<(l0.length : Int):=zy jC;obtain ⟨ad266,e266,hx266_0⟩:=Kd.at_int HR0.out (ji7) p266 q266
     cases e266
     replace p266:=eq_true p266;replace q266:=eq_true q266;have p267 : 0≤((ji10) : Int):=zy jC;have q267 : (ji10)<(l0.length : Int):=zy jC;obtain ⟨ad267,e267,hx267_0⟩:=Kd.at_int HR0.out (ji10) p267 q267;obtain rfl : ad266=ad267:=(by injection e267);replace p267:=eq_true p267;replace q267:=eq_true q267
     go_enter Try.func7,Try.ntmps7
     go_wp2
     repeat (go_quiet (fail);try go_wp2)
     go_ret
     exact ⟨by first|rfl|(simp;done)|(simp only [← hji7,← hji10] <;> (first|rfl|simp))|(simp [*];done),jI⟩
    rw [if_neg c12] at H;exact absurd H (by simp)
   rw [if_neg c11] at H;exact absurd H (by simp)
  rw [if_neg c9] at H;exact absurd H (by simp)
 rw [if_neg c8] at H;exact absurd H (by simp)

end Go.Proofs.Ytgifonogfgpjdaa.Q
end
section
namespace Go.Proofs.Ytgifonogfgpjdaa.Pure
open Go Go.RowKit Go.Proofs.Ytgifonogfgpjdaa.Q Go.Proofs.YtgifonogfgpjdaaW.PrintWords Go.Proofs.YtgifonogfgpjdaaW.PrintLast Go.Proofs.YtgifonogfgpjdaaW.PrintMore Go.Proofs.YtgifonogfgpjdaaW.Pl
theorem rdS5 (l : List ByteArray) (i : Nat) (h : i<l.length) : rdOf ByteArray.empty l (i : Int)=l[i]:=rdOf_at _ l i h
def Okst (at_ seed : Int) : Prop:=0≤at_∧at_≤1000000000∧0≤seed∧seed<2147483648
theorem byte_draw (code : List Int) (hc : ∀ b ∈ code,0≤b∧b≤255) (at_ seed : Int) (h : Okst at_ seed) : ∃ b s,Fg.f code at_ seed=some (b,at_+1,s)∧0≤b∧b≤255∧0≤s∧s<2147483648:=by
 obtain ⟨h0,h1,h2,h3⟩:=h;have e1 : wrap64 (at_+1)=at_+1:=w64 (by omega) (by omega);have e2 : wrap64 (at_+1 - 1)=at_:=by rw [w64 (by omega) (by omega)];omega
 have tm : ∀ x : Int,0≤x→Int.tmod x 2147483648=x % 2147483648:=fun x hx=>Int.tmod_eq_emod_of_nonneg hx;unfold Fg.f;simp only [e1,e2]
 by_cases hl : at_+1≤(code.length : Int)
 ·
  rw [if_pos hl,if_pos h0,if_pos (by omega)]
  obtain ⟨i,rfl⟩ : ∃ i : Nat,at_=(i : Int):=⟨at_.toNat,by omega⟩;have hi : i<code.length:=by omega
  have hb:=hc _ (List.getElem_mem hi);rw [rd_at code i hi];have e3 : wrap64 code[i]=code[i]:=w64 (by omega) (by omega);have e4 : wrap64 (seed*31)=seed*31:=w64 (by omega) (by omega);have e5 : wrap64 (seed*31+code[i])=seed*31+code[i]:=w64 (by omega) (by omega);have e6 : wrap64 (seed*31+code[i]+7)=seed*31+code[i]+7:=w64 (by omega) (by omega);rw [e3,e4,e5,e6,tm _ (by omega)];exact ⟨_,_,rfl,hb.1,hb.2,by omega,by omega⟩
 rw [if_neg hl];have e4 : wrap64 (seed*1103515245)=seed*1103515245:=w64 (by omega) (by omega);have e5 : wrap64 (seed*1103515245+12345)=seed*1103515245+12345:=w64 (by omega) (by omega);rw [e4,e5,tm _ (by omega)];generalize hx : (seed*1103515245+12345) % 2147483648=x;have hx0 : 0≤x∧x<2147483648:=by omega
 by_cases h3k : at_+1 > 3000
 ·
  rw [if_pos h3k];exact ⟨_,_,rfl,by omega,by omega,h2,h3⟩
 rw [if_neg h3k];have e7 : Int.tdiv x 65536=x / 65536:=Int.tdiv_eq_ediv_of_nonneg hx0.1;have e8 : wrap64 (x / 65536)=x / 65536:=w64 (by omega) (by omega);have e9 : Int.tmod (x / 65536) 256=x / 65536 % 256:=Int.tmod_eq_emod_of_nonneg (by omega);rw [e7,e8,e9];exact ⟨_,_,rfl,by omega,by omega,hx0.1,hx0.2⟩
theorem next_draw (code : List Int) (hc : ∀ b ∈ code,0≤b∧b≤255) (n : Int) (hn : 1<n) (hn2 : n≤256) (at_ seed : Int) (h : Okst at_ seed) : ∃ v s,F06.f code at_ seed n=some (v,at_+1,s)∧0≤v∧v<n∧0≤s∧s<2147483648:=by
 obtain ⟨b,s,hb,h0,h1,h2,h3⟩:=byte_draw code hc at_ seed h;unfold F06.f;rw [if_neg (by omega),if_pos hn2,hb];simp only [Option.bind_some];rw [if_neg (by omega)];have e : Int.tmod b n=b % n:=Int.tmod_eq_emod_of_nonneg h0;rw [e];exact ⟨_,_,rfl,Int.emod_nonneg _ (by omega),Int.emod_lt_of_pos _ (by omega),h2,h3⟩
theorem pick_draw (code : List Int) (hc : ∀ b ∈ code,0≤b∧b≤255) (l : List ByteArray) (hn : 1<l.length) (hn2 : l.length≤256) (at_ seed : Int) (h : Okst at_ seed) : ∃ t s,F0m.f code at_ seed l=some (t,at_+1,s)∧t ∈ l∧0≤s∧s<2147483648:=by
 obtain ⟨v,s,hv,h0,h1,h2,h3⟩:=next_draw code hc (l.length : Int) (by omega) (by omega) at_ seed h;unfold F0m.f;rw [if_neg (by omega),hv];simp only [Option.bind_some];rw [if_pos h0,if_pos h1];obtain ⟨i,rfl⟩ : ∃ i : Nat,v=(i : Int):=⟨v.toNat,by omega⟩;rw [rdS5 l i (by omega)];exact ⟨_,_,rfl,List.getElem_mem _,h2,h3⟩
theorem chance_draw (code : List Int) (hc : ∀ b ∈ code,0≤b∧b≤255) (n : Int) (hn : 1<n) (hn2 : n≤256) (at_ seed : Int) (h : Okst at_ seed) : ∃ b s,F0o.f code at_ seed n=some (b,at_+1,s)∧0≤s∧s<2147483648:=by
 obtain ⟨v,s,hv,-,-,h2,h3⟩:=next_draw code hc n hn hn2 at_ seed h;unfold F0o.f;rw [hv];exact ⟨_,s,rfl,h2,h3⟩
theorem entry_draw (code : List Int) (hc : ∀ b ∈ code,0≤b∧b≤255) (at_ seed : Int) (h : Okst at_ seed) (h9 : at_≤900000000) : ∃ (e : IEnt) (s : Int),F0a.f code at_ seed=some (e.f0,e.f1,at_+2,s)∧eok e=true∧e.f0.size≤2∧0≤s∧s<2147483648:=by
 have hs7 : ∀ t ∈ ([(⟨#[97]⟩ : ByteArray),(⟨#[98]⟩ : ByteArray),(⟨#[99]⟩ : ByteArray),(⟨#[97,97]⟩ : ByteArray),(⟨#[]⟩ : ByteArray),(⟨#[100]⟩ : ByteArray),(⟨#[101]⟩ : ByteArray)] : List ByteArray),t.size≤2:=by
  intro t ht;simp only [List.mem_cons,List.not_mem_nil,or_false] at ht;rcases ht with rfl|rfl|rfl|rfl|rfl|rfl|rfl <;> decide
 obtain ⟨t,s1,ht,htm,h2,h3⟩:=pick_draw code hc ([(⟨#[97]⟩ : ByteArray),(⟨#[98]⟩ : ByteArray),(⟨#[99]⟩ : ByteArray),(⟨#[97,97]⟩ : ByteArray),(⟨#[]⟩ : ByteArray),(⟨#[100]⟩ : ByteArray),(⟨#[101]⟩ : ByteArray)] : List ByteArray) (by simp) (by simp) at_ seed h;obtain ⟨v,s,hv,hv0,hv1,h4,h5⟩:=next_draw code hc 4 (by omega) (by omega) (at_+1) s1 ⟨by have:=h.1;omega,by omega,h2,h3⟩;have hz:=hs7 t htm;refine ⟨⟨t,v⟩,s,?_,?_,hz,h4,h5⟩
 ·
  unfold F0a.f
  rw [ht];simp only [Option.bind_some];rw [hv];simp only [Option.bind_some];rw [show at_+1+1=at_+2 by omega]
 unfold eok inr;simp only [Bool.and_eq_true,decide_eq_true_eq]
 omega
theorem WF.facts {T : List IPag} {n : Int} (h : WF T n) : T.length≤1000000∧(∀ p ∈ T,p.f1.length≤1000000)∧0<T.length∧T.length≤60:=⟨by have:=h.len;omega,fun p hp=>by have:=h.small p hp;omega,h.len.1,h.len.2⟩
theorem entryOf_draws (code : List Int) (hc : ∀ b ∈ code,0≤b∧b≤255) : ∃ e : IEnt,F0k.f code=some (e.f0,e.f1)∧e.f0.size≤2:=by
 have hs : 0≤(code.length : Int) % 1000∧(code.length : Int) % 1000<2147483648:=by omega
 obtain ⟨e,s,he,-,hz,-,-⟩:=entry_draw code hc 0 ((code.length : Int) % 1000) ⟨by omega,by omega,hs.1,hs.2⟩ (by omega);refine ⟨e,?_,hz⟩;simp only [F0k.f,F0g.f,Option.bind_some,he]
end Go.Proofs.Ytgifonogfgpjdaa.Pure
end
