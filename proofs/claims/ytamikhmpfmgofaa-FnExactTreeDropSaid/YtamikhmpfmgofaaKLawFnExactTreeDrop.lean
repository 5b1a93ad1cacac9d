/- FnExactTreeDrop: for all arguments the law answers true, and they read behind the call as they read before. No condition. -/
import Derived.Test.YtamikhmpfmgofaaKLawFnExactTreeDropp25
import Derived.Test.YtamikhmpfmgofaaRows
import Derived.Carry
section
namespace Go.Proofs.Ytamikhmpfmgofaa.Q
open Go.RowKit Go.Proofs.YtamikhmpfmgofaaW.PrintWords Go.Proofs.YtamikhmpfmgofaaW.PrintLast Go.Proofs.YtamikhmpfmgofaaW.PrintMore
attribute [local go_sem] max2_int min2_int max_two min_two max_three min_three max_four min_four max2_str min2_str str_geq str_gtr str_leq
set_option linter.unusedVariables false
set_option linter.unusedSimpArgs false

def Fv.l0 : Nat→List Int→Int→Int→Option (Int)
 | 0,_,_,_=>none
 | k+1,x0,x1,x5=>if x5<(x0.length : Int) then (if 0≤x5 then (if (rd x0 x5)=x1 then (Fv.l0 k x0 (wrap64 (x1+1)) (wrap64 (x5+1))) else (some (-1))) else (none)) else (some x1)
def Fv.f (k : Nat) (l0 : List Int) (a1 : Int) : Option (Int):=Fv.l0 k l0 a1 0
theorem Fv.mono_l : ∀ k,(∀ y0 y1 y2,LeO (Fv.l0 k y0 y1 y2) (Fv.l0 (k+1) y0 y1 y2))
 | 0=>fun _ _ _ r h=>by simp [Fv.l0] at h
 | k+1=>by
  have ih0:=Fv.mono_l k;intro y0 y1 y2;unfold Fv.l0
  repeat' first|(with_reducible first|exact ih0 _ _ _|exact zQ _|exact zN _|refine zP ?_ ?_|refine zO ?_ (fun _=>?_))|refine zP ?_ ?_|refine zO ?_ (fun _=>?_)
theorem Fv.mono : ∀ a0 a1 k,LeO (Fv.f k a0 a1) (Fv.f (k+1) a0 a1):=by
 intro a0 a1 k;have ih0:=Fv.mono_l k;unfold Fv.f
 repeat' first|(with_reducible first|exact ih0 _ _ _|exact zQ _|exact zN _|refine zP ?_ ?_|refine zO ?_ (fun _=>?_))|refine zP ?_ ?_|refine zO ?_ (fun _=>?_)
set_option maxHeartbeats 8000000 in
set_option maxRecDepth 100000 in
theorem Fv.calls (k : Nat) (A0 : Option Addr) (c0 : Nat) (l0 : List Int) (a1 : Int) (r : Int) (w : World) (hr0 : Kd.C (Kd.int .i64) w A0 l0.length l0) (hc0 : l0.length≤c0) (h : Fv.f k l0 a1=some r) :
  Calls Try.prog 19 #[.slice A0 l0.length c0,.int .i64 a1] w fun e w' => e = .returned (.int .i64 r)∧Drawn0 w w':=by
 have HR0:=zh hr0;have HC0:=zh hc0;clear hr0 hc0;have H : (Fv.l0 k l0 a1 0)=some r:=h;clear h;have H':=zh H;clear H
 go_enter Try.func19,Try.ntmps19
 go_wp2
 go_loopg [1,5] k (fun kq v1 v5 w' => ∃ (x1_1 : Int) (x5_1 : Int),v1 = .int .i64 x1_1∧v5 = .int .i64 x5_1∧Aside0 (Fv.l0 kq l0 x1_1 x5_1=some r)∧Aside0 (kq≤k)∧Drawn0 w w')
 case atStart=>exact ⟨(a1),(0),jD,jD,H',⟨ye _⟩,jI⟩
 case round =>
  clear H'
  try clear c1
  try clear p2
  obtain ⟨x1_1,x5_1,rfl,rfl,HA,HK1,⟨m1,rfl⟩⟩:=hrel
  cases gk with
  | zero=>exact absurd HA.out (by simp [Fv.l0])
  | succ k1 =>
   have H:=HA.out;clear HA;simp only [Fv.l0] at H
   by_cases c3 : x5_1<(l0.length : Int)
   ·
    rw [if_pos c3] at H
    have c3b0 : decide (x5_1<(l0.length : Int))=true:=decide_eq_true c3;clear c3
    by_cases c4 : 0≤x5_1
    ·
     rw [if_pos c4] at H
     have c4b0 : decide (0≤x5_1)=true:=decide_eq_true c4;clear c4
     by_cases c5 : (rd l0 x5_1)=x1_1
     ·
      rw [if_pos c5] at H
      have c5b0 : ((rd l0 x5_1) == x1_1)=true:=ya.mpr c5;have c5b1 : ((rd l0 x5_1) != x1_1)=false:=zX.mpr c5;clear c5;have H':=zh H;clear H;have p319 : 0≤(x5_1 : Int):=zy jB;have q319 : x5_1<(l0.length : Int):=zy jB;obtain ⟨ad319,e319,hx319_0⟩:=Kd.at_int HR0.out x5_1 p319 q319
      cases e319
      replace p319:=eq_true p319;replace q319:=eq_true q319
      go_wp2
      go_roundg k1
      case measure=>have:=HK1.out;omega
      case rel=>exact ⟨(wrap64 (x1_1+1)),(wrap64 (x5_1+1)),jD,jD,H',⟨jK⟩,jI⟩
     rw [if_neg c5] at H;have c5b0 : ((rd l0 x5_1) == x1_1)=false:=zY.mpr c5;have c5b1 : ((rd l0 x5_1) != x1_1)=true:=zZ.mpr c5;obtain rfl:=zU H;have p319 : 0≤(x5_1 : Int):=zy jB;have q319 : x5_1<(l0.length : Int):=zy jB;obtain ⟨ad319,e319,hx319_0⟩:=Kd.at_int HR0.out x5_1 p319 q319
     cases e319
     replace p319:=eq_true p319;replace q319:=eq_true q319
     go_wp2
     go_ret
     exact ⟨jD,jI⟩
    rw [if_neg c4] at H;exact absurd H (by simp)
   rw [if_neg c3] at H;have c3b0 : decide (x5_1<(l0.length : Int))=false:=decide_eq_false c3;clear c3;obtain rfl:=zU H
   go_wp2
   go_ret
   exact ⟨jD,jI⟩

end Go.Proofs.Ytamikhmpfmgofaa.Q
end
section
namespace Go.Proofs.Ytamikhmpfmgofaa.Pure
open Go Go.RowKit Go.Proofs.Ytamikhmpfmgofaa.Q Go.Proofs.YtamikhmpfmgofaaW.PrintWords Go.Proofs.YtamikhmpfmgofaaW.PrintLast Go.Proofs.YtamikhmpfmgofaaW.PrintMore Go.Proofs.YtamikhmpfmgofaaW.Pl
theorem one_size (b : Int) : (strOfNums [b]).size=1:=by
 unfold strOfNums;rw [← data_length];simp
theorem mark_loop : ∀ (n : Nat) (x : Int) (acc : ByteArray),0≤x→x≤n→acc.size+n≤4611686018427387904 → ∃ t,Eve (fun k=>Fh.l0 k x acc) t:=by
 intro n
 induction n with
 | zero =>
  intro x acc h0 h1 h2;refine ⟨(⟨#[109]⟩ : ByteArray)++acc,Eve.succ ?_⟩;simp only [Fh.l0];exact Eve.ite (fun h=>absurd h (by omega)) (fun _=>Eve.ite (fun _=>Eve.one) (fun h=>absurd (by omega) h))
 | succ n ih =>
  intro x acc h0 h1 h2
  by_cases hx : x > 0
  ·
   have e1 : Int.tdiv x 10=x / 10:=Int.tdiv_eq_ediv_of_nonneg h0
   have e2 : wrap64 (x / 10)=x / 10:=w64 (by omega) (by omega);obtain ⟨t,ht⟩:=ih (x / 10) (strOfNums [(wrap64 (48+(Int.tmod x 10))) % 256]++acc) (by omega) (by omega) (by rw [ByteArray.size_append,one_size];omega);refine ⟨t,Eve.succ ?_⟩;simp only [Fh.l0,Option.bind_some,one_size,e1,e2];exact Eve.ite (fun _=>Eve.ite (fun _=>ht) (fun h=>absurd (by omega) h)) (fun h=>absurd hx h)
  refine ⟨(⟨#[109]⟩ : ByteArray)++acc,Eve.succ ?_⟩;simp only [Fh.l0];exact Eve.ite (fun h=>absurd h hx) (fun _=>Eve.ite (fun _=>Eve.one) (fun h=>absurd (by omega) h))
theorem mark_text (x : Int) (h0 : 0≤x) (h1 : x≤4611686018427387904) : ∃ t,Eve (fun k=>Fh.f k x) t:=by
 by_cases h : x≤0
 ·
  exact ⟨⟨#[109,48]⟩,by simp only [Fh.f];exact Eve.ite (fun _=>Eve.one) (fun h2=>absurd h h2)⟩
 obtain ⟨t,ht⟩:=mark_loop x.toNat x ⟨#[]⟩ h0 (by omega) (by show 0+x.toNat≤_;omega);exact ⟨t,by simp only [Fh.f];exact Eve.ite (fun h2=>absurd h2 h) (fun _=>ht)⟩
open Classical in
noncomputable def mt (x : Int) : ByteArray:=if h : ∃ t,Eve (fun k=>Fh.f k x) t then h.choose else ⟨#[]⟩
theorem mt_tells (x : Int) (h0 : 0≤x) (h1 : x≤4611686018427387904) : Eve (fun k=>Fh.f k x) (mt x):=by
 have h:=mark_text x h0 h1;unfold mt;rw [dif_pos h];exact h.choose_spec
theorem filled {α : Type} (ys : List α) (n : Nat) (c : Nat→α) (h1 : ys.length=n) (h2 : ∀ j,j<n→ys[j]? = some (c j)) : ys=(List.range n).map c:=by
 apply List.ext_getElem?
 intro j
 by_cases hj : j<n
 ·
  rw [h2 j hj];simp [hj]
 rw [List.getElem?_eq_none (by omega),List.getElem?_eq_none (by simp;omega)]
theorem fill_next {α : Type} (ys : List α) (i : Nat) (c : Nat→α) (h1 : i<ys.length) (h2 : ∀ j,j<i→ys[j]? = some (c j)) : ∀ j,j<i+1→(ys.set i (c i))[j]? = some (c j):=by
 intro j hj
 by_cases h : j=i
 ·
  subst h;simp [h1]
 rw [List.getElem?_set_ne (by omega)];exact h2 j (by omega)
noncomputable def cellE (x : Int) (i : Nat) : IEnt:=⟨mt (x+2*(i : Int)),x+2*(i : Int)+1⟩
theorem mark_ents (E : List IEnt) (x : Int) (h0 : 0≤x) (hx : x+2*E.length≤2305843009213693952) : Eve (fun k=>Fn.f k E x) (x+2*(E.length : Int),(List.range E.length).map (cellE x)):=by
 simp only [Fn.f];refine ev_loop0 E (fun k (s : List IEnt×Int) i=>Fn.l0 k s.1 s.2 i) (fun _ _ _=>(x+2*(E.length : Int),(List.range E.length).map (cellE x))) (fun i s=>s.1.length=E.length∧s.2=x+2*(i : Int) ∧ ∀ j,j<i→s.1[j]? = some (cellE x j)) (fun s hs=>?_) (fun i hi s hs ih=>?_) (E,x) ⟨rfl,by simp,by intro j hj;omega⟩
 ·
  obtain ⟨h1,h2,h3⟩:=hs
  simp only [Fn.l0];exact Eve.ite (fun h=>absurd h (by omega)) (fun _=>Eve.one.eq (by rw [h2,filled s.1 _ _ h1 h3]))
 obtain ⟨ys,y⟩:=s;obtain ⟨h1,h2,h3⟩:=hs;simp only at h1 h2 h3;subst h2;have hiy : i<ys.length:=by omega
 have e1 : wrap64 (x+2*(i : Int)+1)=x+2*(i : Int)+1:=w64 (by omega) (by omega);have e2 : wrap64 (x+2*(i : Int)+1+1)=x+2*((i+1 : Nat) : Int):=by rw [w64 (by omega) (by omega)];omega
 simp only [Fn.l0,Option.bind_some,e1,e2,Int.toNat_natCast,wi (show i≤9223372036854775806 by omega)];refine Eve.ite (fun _=>?_) (fun h=>absurd (by omega) h);refine Eve.bind (mt_tells _ (by omega) (by omega)) ?_;refine Eve.ite (fun _=>?_) (fun h=>absurd (by omega) h)
 have e3 : rd_T51 (ys.set i ⟨mt (x+2*(i : Int)),(rd_T51 ys (i : Int)).f1⟩) (i : Int)=⟨mt (x+2*(i : Int)),(rd_T51 ys (i : Int)).f1⟩:=by
  rw [rdIE _ _ (by simpa using hiy),List.getElem_set_self]
 rw [e3,List.set_set];exact ih (ys.set i (cellE x i),x+2*((i+1 : Nat) : Int)) ⟨by simpa using h1,rfl,fill_next ys i (cellE x) hiy h3⟩
theorem held_ents (n : Nat) (x : Int) (h0 : 0≤x) (hx : x+2*n≤2305843009213693952) : Eve (fun k=>Fd.f k ((List.range n).map (cellE x)) x) (x+2*(n : Int)):=by
 simp only [Fd.f];have hl : ((List.range n).map (cellE x)).length=n:=by simp
 refine ev_loop0 ((List.range n).map (cellE x)) (fun k (s : Int) i=>Fd.l0 k ((List.range n).map (cellE x)) s i) (fun _ _ _=>x+2*(n : Int)) (fun i s=>s=x+2*(i : Int)) (fun s hs=>?_) (fun i hi s hs ih=>?_) x (by simp)
 ·
  simp only [Fd.l0]
  exact Eve.ite (fun h=>absurd h (by omega)) (fun _=>Eve.one.eq (by rw [hs,hl]))
 subst hs;rw [hl] at hi;have e1 : wrap64 (x+2*(i : Int)+1)=x+2*(i : Int)+1:=w64 (by omega) (by omega);have e2 : wrap64 (x+2*(i : Int)+1+1)=x+2*((i+1 : Nat) : Int):=by rw [w64 (by omega) (by omega)];omega
 simp only [Fd.l0,e1,e2,rdIE _ _ (show i<((List.range n).map (cellE x)).length by omega),wi (show i≤9223372036854775806 by omega),List.getElem_map,List.getElem_range];refine Eve.ite (fun _=>?_) (fun h=>absurd (by omega) h);refine Eve.ite (fun _=>?_) (fun h=>absurd (by omega) h);refine Eve.bind (mt_tells _ (by omega) (by omega)) ?_;refine Eve.ite (fun _=>?_) (fun h=>absurd rfl h);refine Eve.ite (fun _=>?_) (fun h=>absurd rfl h);exact ih _ rfl
def cellI (x : Int) (i : Nat) : Int:=x+(i : Int)
end Go.Proofs.Ytamikhmpfmgofaa.Pure
end
section
namespace Go.Proofs.Ytamikhmpfmgofaa.Pure
open Go Go.RowKit Go.Proofs.Ytamikhmpfmgofaa.Q Go.Proofs.YtamikhmpfmgofaaW.PrintWords Go.Proofs.YtamikhmpfmgofaaW.PrintLast Go.Proofs.YtamikhmpfmgofaaW.PrintMore Go.Proofs.YtamikhmpfmgofaaW.Pl
noncomputable def mkP : List IPag→Int→List IPag
 | [],_ => []
 | p :: ps,a=>⟨a,(List.range p.f1.length).map (cellE (a+1))⟩ :: mkP ps (a+1+2*(p.f1.length : Int))
def szP : List IPag→Int
 | []=>0
 | p :: ps=>1+2*(p.f1.length : Int)+szP ps
theorem szP_nn : ∀ T,0≤szP T
 | []=>Int.le_refl _
 | p :: ps=>by have:=szP_nn ps;simp only [szP];omega
theorem mark_pages2 : ∀ (T : List IPag) (a : Int),0≤a→a+szP T≤2305843009213693952→Eve (fun k=>Fz.g k T a) (a+szP T,mkP T a)
 | [],a,_,_=>Eve.one.eq (by simp [szP,mkP])
 | p :: ps,a,h0,h1=>by
  have hnn:=szP_nn ps;simp only [szP] at h1;have e1 : wrap64 (a+1)=a+1:=w64 (by omega) (by omega);have hm:=mark_ents p.f1 (a+1) (by omega) (by omega);have ht:=mark_pages2 ps (a+1+2*(p.f1.length : Int)) (by omega) (by omega);simp only [Fz.g,e1];refine Eve.bind hm ?_;refine Eve.bind ht (Eve.one.eq ?_);simp only [szP,mkP,Prod.mk.injEq,and_true]
  omega
theorem mkP_length : ∀ (T : List IPag) (a : Int),(mkP T a).length=T.length
 | [],_=>rfl
 | p :: ps,a=>by simp only [mkP,List.length_cons,mkP_length ps]
theorem held_pages2 (M : List IPag) (hM : M.length≤1048576) : ∀ (T : List IPag) (a : Int) (i : Nat),0≤a→a+szP T≤2305843009213693952→M.drop i=mkP T a→Eve (fun k=>Fr.l0 k M a (i : Int)) (a+szP T)
 | [],a,i,_,_,hd=>by
  have hl : M.length≤i:=by
   have:=congrArg List.length hd;simp only [List.length_drop,mkP,List.length_nil] at this
   omega
  refine Eve.succ ?_;simp only [Fr.l0];exact Eve.ite (fun h=>absurd h (by omega)) (fun _=>Eve.one.eq (by simp [szP]))
 | p :: ps,a,i,h0,h1,hd=>by
  have hnn:=szP_nn ps;simp only [szP] at h1
  have hi : i<M.length:=by
   have:=congrArg List.length hd;simp only [List.length_drop,mkP,List.length_cons] at this
   omega
  rw [drop_at M i hi] at hd;simp only [mkP,List.cons.injEq] at hd;obtain ⟨hx,hd⟩:=hd;have e1 : wrap64 (a+1)=a+1:=w64 (by omega) (by omega);have hh:=held_ents p.f1.length (a+1) (by omega) (by omega);have ih:=held_pages2 M hM ps (a+1+2*(p.f1.length : Int)) (i+1) (by omega) (by omega) hd;refine Eve.succ ?_;simp only [Fr.l0,rdIP _ _ hi,hx,e1,wi (show i≤9223372036854775806 by omega)];refine Eve.ite (fun _=>?_) (fun h=>absurd (by omega) h);refine Eve.ite (fun _=>?_) (fun h=>absurd (by omega) h);refine Eve.ite (fun _=>?_) (fun h=>(h (by trivial)).elim);refine Eve.bind hh ?_;refine Eve.ite (fun h=>absurd h (by omega)) (fun _=>?_);refine ih.eq ?_;simp only [szP];omega
theorem szP_le : ∀ (T : List IPag),szP T≤T.length+2*((T.flatMap (·.f1)).length : Int)
 | []=>by simp [szP]
 | p :: ps=>by
  have:=szP_le ps;simp only [szP,List.flatMap_cons,List.length_append,List.length_cons]
  omega
theorem held_tree2 (T : List IPag) (n : Int) (hT : T.length≤1048576) (h : 1+szP T≤2305843009213693952) : Eve (fun k=>F0c.f k (mkP T 1) n 1) (1+szP T):=by
 have hnn:=szP_nn T;simp only [F0c.f,Fr.f];refine Eve.bind (held_pages2 (mkP T 1) (by rw [mkP_length];exact hT) T 1 0 (by omega) h (by rw [List.drop_zero])) ?_;exact Eve.ite (fun h=>absurd h (by omega)) (fun _=>Eve.one)
theorem szP_page : ∀ (T : List IPag),(∀ p ∈ T,p.f1.length≤1000000)→szP T≤2000001*(T.length : Int)
 | [],_=>by simp [szP]
 | p :: ps,h=>by
  have:=szP_page ps (fun q hq=>h q (by simp [hq]));have:=h p (by simp);simp only [szP,List.length_cons]
  omega
theorem FnExactTreeDrop : F0b.Pure:=by
 rintro ⟨l,n⟩ ⟨key,id⟩ ⟨hl,hn⟩ ⟨hk,hid⟩;refine Eve.get (g:=fun k=>F0b.f k l n key id) ?_;simp only [F0b.f];refine Eve.bind (szTree_tells l n hl.1 (good_pages hl) (by omega) (by omega)) ?_
 by_cases h : (1048576 : Int) - szPS l<0
 ·
  simp only [if_pos h];exact Eve.ite (fun _=>Eve.one) (fun h=>absurd (by omega) h)
 simp only [if_neg h];have hz:=szEntry_tells (⟨key,id⟩ : LEnt) hk (left:=1048576 - szPS l) (by omega) (by omega);simp only at hz;rw [hz];simp only [Option.bind_some]
 by_cases h2 : (1048576 : Int) - szPS l - (key.size : Int)<0
 ·
  simp only [if_pos h2];exact Eve.ite (fun _=>Eve.one) (fun h=>absurd (by omega) h)
 simp only [if_neg h2];have hF : Fits l:=by unfold Fits;omega
 have hT : (l.map ip).length≤1048576:=by simpa using hF.len
 have hf : ((l.map ip).flatMap (·.f1)).length≤1048576:=by rw [map_flat];simpa using hF.flat
 have hp : ∀ p ∈ l.map ip,p.f1.length≤1048576:=fun p hp=>by
  obtain ⟨q,hq,rfl⟩:=List.mem_map.1 hp
  simpa [ip] using hF.page q hq
 refine Eve.bind (toTree_tells l n hF) ?_;have hto : F5.f key id=some (key,id):=rfl;simp only [hto,Option.bind_some];refine Eve.bind (treeDrop_spec (l.map ip) n ⟨key,id⟩ hT hp) ?_;refine Eve.bind (treeDrop_impl (l.map ip) n ⟨key,id⟩ hT hf) ?_;have hsm:=dropA_small (l.map ip) n ⟨key,id⟩;generalize dropA (l.map ip) n ⟨key,id⟩=A at hsm ⊢;obtain ⟨A0,A1,A2⟩:=A;simp only at hsm ⊢;have hz1:=szP_le (l.map ip);have hn1:=szP_nn (l.map ip);have hz2:=szP_page A0 (fun p h=>by have:=hsm.2 p h;omega);have hn2:=szP_nn A0;refine Eve.bind (eqTree_self A0 A1 (by omega) (fun p h=>by have:=hsm.2 p h;omega)) ?_;refine Eve.bind (eqTree_to l n hF) ?_;refine Eve.bind (mark_pages2 (l.map ip) 1 (by omega) (by omega)) ?_;refine Eve.bind (mark_pages2 A0 1 (by omega) (by omega)) ?_;refine Eve.bind (held_tree2 A0 A1 (by omega) (by omega)) ?_;refine Eve.ite (fun _=>Eve.one) (fun h=>absurd ?_ h);refine ⟨by trivial,by trivial,by trivial,?_,?_,by trivial,?_,?_⟩
 all_goals omega
end Go.Proofs.Ytamikhmpfmgofaa.Pure
end
section
namespace Go.Proofs.Ytamikhmpfmgofaa.fnExactTreeDrop
open Go.ChangeShapes Go.WideShapes Go.ChangeAt Go.RowKit Go.Proofs.YtamikhmpfmgofaaW.PrintWords Go.Proofs.YtamikhmpfmgofaaW.PrintOpen Go.Proofs.Ytamikhmpfmgofaa.Q
open Go.ChangeMaps (open_string shut_string)
set_option linter.unusedVariables false
theorem own : ownKnob Try.prog.godebug=none:=by kernel_rfl
theorem laidOut : laidOutB Try.prog=true:=by kernel_rfl
set_option maxRecDepth 100000 in
theorem lifted (os : Os) (started : os.Started) (H : Type) (enc : TypeId×Value→H) :
  ReturnsInHanded {} Try.checked os 4 .any (Rows.fnExactTreeDropSpec.pre6 enc Try.prog Try.f4 Rows.fnExactTreeDropRow.domain false) (Rows.fnExactTreeDropSpec.post enc Try.prog Try.f4 false true false false):=by
 refine returnsInHanded_of_change_sized (C:=Try.checked) own started jA Try.func4
  (ChangeSpec.witness6 (enc:=enc) (C:=Try.checked) false ⟨#[],#[.agg #[.slice none 0 0,.int .i64 0],.agg #[.string ByteArray.empty,.int .i64 0]],[]⟩ 8 jA jA jA jA) ?_
 intro W base args ds gs before hval0 hW hcnd hsz0 _
 have hval : ∀ (j : Nat) t v,Try.f4.params[j]? = some t→args[j]? = some v→Value.okWide Try.prog W .any base t v:=hval0
 have hW':=hW
 obtain ⟨p,q,hA0,hV,rfl,hfz,hnd⟩:=hW
 have hA : DataW.TrodAll enc Try.prog W 0 (fun _=>true) true Try.f4.params.toList args.toList ds p:=hA0
 rw [Try.params4] at hA hval
 obtain ⟨v0,vs0,d0,ds0,p0,q0,hargs,rfl,rfl,h0,r0⟩:=trodAll_cons hA
 obtain ⟨v1,vs1,d1,ds1,p1,q1,rfl,rfl,rfl,h1,r1⟩:=trodAll_cons r0
 obtain ⟨rfl,rfl,rfl⟩:=trodAll_nil r1
 obtain rfl : args = #[v0,v1]:=by cases args;simp_all
 obtain ⟨rfl,rfl⟩:=trodVars_none hV
 have t0:=h0
 have lt0 : ∀ x ∈ p0,x.block<W.heap.size:=by obtain ⟨m,hm⟩:=t0;exact DataW.trod_lt m _ _ _ hm
 obtain ⟨x0,cs0,rfl,K0,g0⟩:=arg_struct Try.underlying24 opens24 (hval 0 24 v0 rfl rfl) h0
 obtain ⟨A0_0,c0_0,rfl,hl0_0,hc0_0⟩:=k24_open K0
 have t1:=h1
 have lt1 : ∀ x ∈ p1,x.block<W.heap.size:=by obtain ⟨m,hm⟩:=t1;exact DataW.trod_lt m _ _ _ hm
 obtain ⟨x1,cs1,rfl,K1,g1⟩:=arg_struct Try.underlying47 opens47 (hval 1 47 v1 rfl rfl) h1
 obtain rfl:=k47_open K1
 clear hA0 hval0 hsz0
 obtain ⟨k,hp⟩:=Pure.FnExactTreeDrop x0 x1 g0 g1
 refine (F0b.calls k A0_0 c0_0 x0.f0 x0.f1 x1.f0 x1.f1 true W hc0_0 hl0_0 hp).mono fun e W' ⟨he,bel0⟩=>?_
 have bel : Below W.heap.size W W':=bel0
 subst he
 exact ⟨_,rfl,_,_,_,[],_,[],hW',trodAll_mk1 (shut_bool Try.underlying4 _),(trodAll_cons_mk (Below.trod laidOut jA (of_decide_eq_true jA) t0 bel lt0) (trodAll_cons_mk (Below.trod laidOut jA (of_decide_eq_true jA) t1 bel lt1) trodAll_mk0)),rfl,bel.frame _,fun h=>by cases h⟩
theorem over : Rows.fnExactTreeDropRow.holds Try.pinned (OpenSpec.ofChange Rows.fnExactTreeDropSpec) :=
 OpenClaim.holds_of_wide 4 Try.f4 rfl rfl rfl rfl rfl rfl rfl ⟨rfl,rfl,rfl,rfl,rfl⟩ rfl rfl rfl rfl rfl jA Try.func4 jA
  (of_decide_eq_true jA) (by unfold Func.isWrapper;first|(rw [if_pos (by decide +kernel)];kernel_rfl)|(rw [if_neg (by decide +kernel)];exact ⟨rfl,rfl⟩))
  (fun os started H enc _=>lifted os started H enc)
theorem proved : Rows.FnExactTreeDropSaid:=over
#print axioms proved
end Go.Proofs.Ytamikhmpfmgofaa.fnExactTreeDrop
namespace Go.Proofs.Ytamikhmpfmgofaa
theorem fnExactTreeDrop_holds : Rows.FnExactTreeDropSaid:=fnExactTreeDrop.proved
end Go.Proofs.Ytamikhmpfmgofaa
end
