/- FnTree: for all arguments true; they read as before. No condition. -/
import Derived.Test.YtgifonogfgpjdaaKLawFnTreep28
import Derived.Test.YtgifonogfgpjdaaRows
import Derived.Carry
section
namespace Go.Proofs.Ytgifonogfgpjdaa.Pure
open Go Go.RowKit Go.Proofs.Ytgifonogfgpjdaa.Q Go.Proofs.YtgifonogfgpjdaaW.PrintWords Go.Proofs.YtgifonogfgpjdaaW.PrintLast Go.Proofs.YtgifonogfgpjdaaW.PrintMore Go.Proofs.YtgifonogfgpjdaaW.Pl
theorem rise_nodup {l : List IEnt} (h : Rise l) : l.Nodup:=List.Pairwise.imp (fun hab he=>by rw [he,el_irrefl] at hab;cases hab) h
theorem mem_page {T : List IPag} {n : Int} (hw : WF T n) (e : IEnt) (h : e ∈ T.flatMap (·.f1)) : e ∈ (pageN T e).f1:=by
 have h0:=hw.len.1;have hj:=(pg_lt e h0).1;obtain ⟨ha,hb⟩:=around hw e;rw [flat_mid T _ hj,← pageN_at e h0] at h;rcases List.mem_append.1 h with h|h
 ·
  have:=ha e h;rw [el_irrefl] at this;cases this
 rcases List.mem_append.1 h with h|h
 ·
  exact h
 have:=hb e h;rw [el_irrefl] at this;cases this
theorem page_mem {T : List IPag} {n : Int} (hw : WF T n) (e x : IEnt) (h : x ∈ (pageN T e).f1) : x ∈ T.flatMap (·.f1):=by
 have h0:=hw.len.1;rw [pageN_at e h0] at h;exact List.mem_flatMap.2 ⟨_,List.getElem_mem _,h⟩
theorem page_rises {T : List IPag} {n : Int} (hw : WF T n) (e : IEnt) : Rise (pageN T e).f1:=by
 have h0:=hw.len.1;rw [pageN_at e h0];exact page_rise hw.rise (List.getElem_mem _)
theorem th_in {T : List IPag} {n : Int} (hw : WF T n) (e : IEnt) : th e (pageN T e).f1=true↔e ∈ T.flatMap (·.f1):=by
 rw [th_mem e _ (page_rises hw e)];exact ⟨page_mem hw e e,mem_page hw e⟩
theorem putB_flat {T : List IPag} {n : Int} (hw : WF T n) (e : IEnt) (ht : ¬ e ∈ T.flatMap (·.f1)) (h60 : T.length<60) (hn : n<100000) : (putB T n e).1.flatMap (·.f1)=flatP T e∧(putB T n e).2.2.2=0:=by
 have h0:=hw.len.1;have hj:=(pg_lt e h0).1;unfold putB;rw [if_neg (fun h=>ht ((th_in hw e).1 h)),if_neg (fun h=>by rcases h.2 with h|h <;> omega)];unfold putT F6.out
 by_cases h4 : (rowP e (pageN T e).f1).length≤4
 ·
  rw [if_pos h4]
  refine ⟨?_,rfl⟩;show (T.set (pgN T e) ⟨(pageN T e).f0,rowP e (pageN T e).f1⟩).flatMap (·.f1)=flatP T e;rw [set_is T _ _ hj,List.flatMap_append,List.flatMap_cons];rfl
 rw [if_neg h4,List.set_set];refine ⟨?_,rfl⟩;generalize hh : (rowP e (pageN T e).f1).length / 2=h2;have hlt : (T.take (pgN T e)).length=pgN T e:=by rw [List.length_take];omega
 have e1 : (T.set (pgN T e) ⟨(pageN T e).f0,(rowP e (pageN T e).f1).take h2⟩).take (pgN T e+1)=T.take (pgN T e) ++ [(⟨(pageN T e).f0,(rowP e (pageN T e).f1).take h2⟩ : IPag)]:=by
  rw [set_is T _ _ hj,List.take_append,hlt,List.take_of_length_le (by omega),show pgN T e+1 - pgN T e=1 by omega];rfl
 have e2 : (T.set (pgN T e) ⟨(pageN T e).f0,(rowP e (pageN T e).f1).take h2⟩).drop (pgN T e+1)=T.drop (pgN T e+1):=by
  rw [set_is T _ _ hj,List.drop_append,hlt,List.drop_of_length_le (by omega),show pgN T e+1 - pgN T e=1 by omega];rfl
 show ((T.set (pgN T e) ⟨(pageN T e).f0,(rowP e (pageN T e).f1).take h2⟩).take (pgN T e+1) ++ [(⟨n,(rowP e (pageN T e).f1).drop h2⟩ : IPag)]++(T.set (pgN T e) ⟨(pageN T e).f0,(rowP e (pageN T e).f1).take h2⟩).drop (pgN T e+1)).flatMap (·.f1)=flatP T e;rw [e1,e2];unfold flatP;rw [List.flatMap_append,List.flatMap_append,List.flatMap_append,List.flatMap_cons,List.flatMap_cons,List.flatMap_nil,List.append_nil,List.append_nil,List.append_assoc,List.append_assoc];show _++((rowP e (pageN T e).f1).take h2++((rowP e (pageN T e).f1).drop h2++_))=_;rw [← List.append_assoc ((rowP e (pageN T e).f1).take h2),List.take_append_drop]
theorem flatP_has (T : List IPag) (e : IEnt) : e ∈ flatP T e:=by
 unfold flatP rowP;simp
theorem flatP_length {T : List IPag} {n : Int} (hw : WF T n) (e : IEnt) : (flatP T e).length=(T.flatMap (·.f1)).length+1:=by
 have h0:=hw.len.1;have hj:=(pg_lt e h0).1;have h1:=congrArg List.length (flat_mid T _ hj);rw [← pageN_at e h0] at h1;rw [h1];unfold flatP;simp only [List.length_append,rowP_length];omega
theorem drop_flat {T : List IPag} {n : Int} (hw : WF T n) (e : IEnt) (h : e ∈ T.flatMap (·.f1)) : List.Perm (T.flatMap (·.f1)) (e :: (dropT T e).flatMap (·.f1)):=by
 have h0:=hw.len.1;have hj:=(pg_lt e h0).1;have hpe:=pageN_at e h0;obtain ⟨hu,hue⟩:=(th_iff _ _).1 ((th_in hw e).2 h);have hlt : (T.take (pgN T e)).length=pgN T e:=by rw [List.length_take];omega
 have hl : (pageN T e).f1=(pageN T e).f1.take (up e (pageN T e).f1)++e :: (pageN T e).f1.drop (up e (pageN T e).f1+1):=by
  have:=list_is (pageN T e).f1 (up e (pageN T e).f1) hu;rw [hue] at this;exact this
 have hflat : (dropT T e).flatMap (·.f1)=(T.take (pgN T e)).flatMap (·.f1)++(((pageN T e).f1.take (up e (pageN T e).f1)++(pageN T e).f1.drop (up e (pageN T e).f1+1))++(T.drop (pgN T e+1)).flatMap (·.f1)):=by
  unfold dropT cutP
  split
  ·
   rename_i hc
   have e1 : ∀ P : IPag,(T.set (pgN T e) P).take (pgN T e)=T.take (pgN T e):=fun P=>by
    rw [set_is T _ _ hj,List.take_append,hlt,List.take_of_length_le (by omega),show pgN T e - pgN T e=0 by omega,List.take_zero,List.append_nil]
   have e2 : ∀ P : IPag,(T.set (pgN T e) P).drop (pgN T e+1)=T.drop (pgN T e+1):=fun P=>by
    rw [set_is T _ _ hj,List.drop_append,hlt,List.drop_of_length_le (by omega),show pgN T e+1 - pgN T e=1 by omega];rfl
   have hnil : (pageN T e).f1.take (up e (pageN T e).f1)++(pageN T e).f1.drop (up e (pageN T e).f1+1)=[]:=by
    apply List.eq_nil_of_length_eq_zero;simp only [List.length_append,List.length_take,List.length_drop];omega
   rw [e1,e2,List.flatMap_append,hnil,List.nil_append]
  rw [set_is T _ _ hj,List.flatMap_append,List.flatMap_cons]
 rw [hflat,flat_mid T _ hj,← hpe]
 conv=>lhs;rw [hl]
 rw [List.append_assoc ((pageN T e).f1.take _),List.append_assoc ((pageN T e).f1.take _),← List.append_assoc ((T.take (pgN T e)).flatMap (·.f1)),← List.append_assoc ((T.take (pgN T e)).flatMap (·.f1)),List.cons_append];exact List.perm_middle
theorem size_tells (T : List IPag) (n : Int) (hT : T.length≤1048576) (hf : (T.flatMap (·.f1)).length≤1048576) (hk : tok T n=true) : Eve (fun k=>Fl.f k T n) (((T.flatMap (·.f1)).length : Int),0):=by
 simp only [Fl.f];refine Eve.bind (implOK_tells T n hT hf) ?_;simp only [if_pos hk];exact Eve.bind (entries_tells T n hT hf) Eve.one
theorem specPage_tells (T : List IPag) (n : Int) (e : IEnt) (hT : T.length≤1048576) (hp : ∀ p ∈ T,p.f1.length≤1048576) (hk : tok T n=true) (he : eok e=true) (h0 : 0<T.length) : Eve (fun k=>Fo.f k T n e.f0 e.f1) ((pageN T e).f0,0):=by
 have hin:=place_in e T 0 0 (by omega) (by omega);have hpl:=place_spec T n e hT h0;rw [← place_from _ _ h0] at hpl;simp only [Fo.f];refine Eve.bind (specOK_tells T n hT hp) ?_;rw [eok_spec];simp only [if_pos hk,if_pos he,Option.bind_some];refine Eve.bind hpl ?_;refine Eve.ite (fun _=>?_) (fun h=>absurd hin.1 h);refine Eve.ite (fun _=>?_) (fun h=>absurd (by omega) h);rw [rd_page e h0];exact Eve.one
theorem sameT_self (T : List IPag) (n : Int) (hT : T.length≤1048576) (hp : ∀ p ∈ T,p.f1.length≤1048576) : Eve (fun k=>Fe.f k T n T n) true:=by
 simp only [Fe.f,if_true,bne_self_eq_false];refine Eve.succ ?_;simp only [Fe.j0,Bool.false_eq_true,if_false];refine ev_loop0 T (fun k (_ : Unit) i=>Fe.l0 k i T n T n) (fun _ _ _=>true) (fun _ _=>True) (fun _ _=>?_) (fun i hi s _ ih=>?_) () trivial
 ·
  simp only [Fe.l0]
  exact Eve.ite (fun h=>absurd h (by omega)) (fun _=>Eve.one)
 simp only [Fe.l0,wi (show i≤9223372036854775806 by omega),rdIP T i hi,if_true];refine Eve.ite (fun _=>?_) (fun h=>absurd (by omega) h);refine Eve.ite (fun _=>?_) (fun h=>absurd (by omega) h);refine Eve.ite (fun _=>?_) (fun h=>absurd (by omega) h);refine Eve.bind (sameE_self _ (hp _ (List.getElem_mem hi))) ?_;simp only [if_true];exact ih () trivial
theorem taken_open (hi : ByteArray) : ∀ ps : List IPag,taken hi true ps=ps
 | []=>rfl
 | p :: ps=>by
  unfold taken;rw [if_neg (by simp [stop]),taken_open hi ps]
theorem nam_open {T : List IPag} {n : Int} (hw : WF T n) : (nam T (⟨#[]⟩ : ByteArray) (⟨#[]⟩ : ByteArray) true).length=T.length:=by
 have hpl : place (⟨(⟨#[]⟩ : ByteArray),-1⟩ : IEnt) 0 0 T=0:=by
  rcases place_at (⟨(⟨#[]⟩ : ByteArray),-1⟩ : IEnt) T 0 0 with h|⟨j,f,fs,hj,h,h1,h2⟩
  ·
   exact h
  exact absurd (noE_less f (hw.ok f (List.mem_flatMap.2 ⟨_,List.getElem_mem hj,by rw [h1];simp⟩))) h2
 unfold nam;rw [hpl,List.length_map];show (ranged _ true (T.drop 0)).length=_;rw [List.drop_zero]
 cases T with
 | nil=>rfl
 | cons p ps =>
  show (p :: taken _ true ps).length=_;rw [taken_open]
structure Sm (T : List IPag) (n : Int) (c : Nat) : Prop where
 len : T.length≤c
 nx : n≤(c : Int)+1
 ids : ∀ x ∈ T.flatMap (·.f1),x.f1≤3
theorem flatP_mem {T : List IPag} {n : Int} (hw : WF T n) (e x : IEnt) (h : x ∈ flatP T e) : x=e∨x ∈ T.flatMap (·.f1):=by
 have h0:=hw.len.1;have hj:=(pg_lt e h0).1;rw [flat_mid T _ hj,← pageN_at e h0];unfold flatP at h;rcases List.mem_append.1 h with h|h
 ·
  exact .inr (List.mem_append.2 (.inl h))
 rcases List.mem_append.1 h with h|h
 ·
  rcases rowP_mem h with h|h
  ·
   exact .inl h
  exact .inr (List.mem_append.2 (.inr (List.mem_append.2 (.inl h))))
 exact .inr (List.mem_append.2 (.inr (List.mem_append.2 (.inr h))))
theorem putB_Sm {T : List IPag} {n : Int} {c : Nat} (hw : WF T n) (hs : Sm T n c) (hc : c≤40) (e : IEnt) (he : e.f1≤3) : Sm (putB T n e).1 (putB T n e).2.1 (c+1):=by
 have h1:=hs.len;have h2:=hs.nx
 by_cases ht : e ∈ T.flatMap (·.f1)
 ·
  unfold putB
  rw [if_pos ((th_in hw e).2 ht)];exact ⟨by show T.length≤_;omega,by show n≤_;omega,hs.ids⟩
 have hf:=(putB_flat hw e ht (by omega) (by omega)).1;refine ⟨?_,?_,fun x hx=>?_⟩
 ·
  unfold putB
  rw [if_neg (fun h=>ht ((th_in hw e).1 h)),if_neg (fun h=>by rcases h.2 with h|h <;> omega)];unfold putT F6.out
  split
  ·
   show (T.set _ _).length≤_
   rw [List.length_set];omega
  simp only [List.length_append,List.length_take,List.length_drop,List.length_set,List.length_singleton];omega
 ·
  unfold putB
  rw [if_neg (fun h=>ht ((th_in hw e).1 h)),if_neg (fun h=>by rcases h.2 with h|h <;> omega)];unfold putT F6.out
  split
  ·
   show n≤_;omega
  show n+1≤_;omega
 rw [hf] at hx;rcases flatP_mem hw e x hx with rfl|h
 ·
  exact he
 exact hs.ids x h
theorem dropT_Sm {T : List IPag} {n : Int} {c : Nat} (hw : WF T n) (hs : Sm T n c) (e : IEnt) (ht : e ∈ T.flatMap (·.f1)) : Sm (dropT T e) n (c+1):=by
 have h1:=hs.len;have h2:=hs.nx;refine ⟨?_,by omega,fun x hx=>hs.ids x ((drop_flat hw e ht).mem_iff.2 (List.mem_cons_of_mem _ hx))⟩;have:=cut_length T (pgN T e) (up e (pageN T e).f1) (pageN T e);unfold dropT
 omega
theorem entry_draw3 (code : List Int) (hc : ∀ b ∈ code,0≤b∧b≤255) (at_ seed : Int) (h : Okst at_ seed) (h9 : at_≤900000000) : ∃ (e : IEnt) (s : Int),F0a.f code at_ seed=some (e.f0,e.f1,at_+2,s)∧eok e=true∧e.f1≤3∧0≤s∧s<2147483648:=by
 have hs7 : ∀ t ∈ ([(⟨#[97]⟩ : ByteArray),(⟨#[98]⟩ : ByteArray),(⟨#[99]⟩ : ByteArray),(⟨#[97,97]⟩ : ByteArray),(⟨#[]⟩ : ByteArray),(⟨#[100]⟩ : ByteArray),(⟨#[101]⟩ : ByteArray)] : List ByteArray),t.size≤2:=by
  intro t ht;simp only [List.mem_cons,List.not_mem_nil,or_false] at ht;rcases ht with rfl|rfl|rfl|rfl|rfl|rfl|rfl <;> decide
 obtain ⟨t,s1,ht,htm,h2,h3⟩:=pick_draw code hc ([(⟨#[97]⟩ : ByteArray),(⟨#[98]⟩ : ByteArray),(⟨#[99]⟩ : ByteArray),(⟨#[97,97]⟩ : ByteArray),(⟨#[]⟩ : ByteArray),(⟨#[100]⟩ : ByteArray),(⟨#[101]⟩ : ByteArray)] : List ByteArray) (by simp) (by simp) at_ seed h;obtain ⟨v,s,hv,hv0,hv1,h4,h5⟩:=next_draw code hc 4 (by omega) (by omega) (at_+1) s1 ⟨by have:=h.1;omega,by omega,h2,h3⟩;have hz:=hs7 t htm;refine ⟨⟨t,v⟩,s,?_,?_,by show v≤3;omega,h4,h5⟩
 ·
  unfold F0a.f
  rw [ht];simp only [Option.bind_some];rw [hv];simp only [Option.bind_some];rw [show at_+1+1=at_+2 by omega]
 unfold eok inr;simp only [Bool.and_eq_true,decide_eq_true_eq]
 omega
theorem tree_loop3 (code : List Int) (hc : ∀ b ∈ code,0≤b∧b≤255) : ∀ (m c : Nat) (at_ seed : Int) (T : List IPag) (n : Int),m+c≤30→0≤at_→at_+3*m≤800000000→0≤seed→seed<2147483648→WF T n→Sm T n c → ∃ T' n' a' s',Eve (fun k=>Fb.l0 k (m : Int) code at_ seed T n) (T',n',a',s')∧WF T' n' ∧ Sm T' n' 30
 | 0,c,at_,seed,T,n,_,_,_,_,_,hw,hs=>by
  obtain ⟨f1,f2,f3,f4⟩:=hw.facts;refine ⟨T,n,at_,seed,Eve.succ ?_,hw,⟨by have:=hs.len;omega,by have:=hs.nx;omega,hs.ids⟩⟩;simp only [Fb.l0];refine Eve.ite (fun h=>absurd h (by omega)) (fun _=>?_);exact Eve.bind (own_tells T n (by omega) (fun p hp=>by have:=f2 p hp;omega)) Eve.one
 | m+1,c,at_,seed,T,n,hm,h0,h1,h2,h3,hw,hs=>by
  obtain ⟨f1,f2,f3,f4⟩:=hw.facts;have hnx:=hw.nx;obtain ⟨b,s1,hb,g1,g2⟩:=chance_draw code hc 4 (by omega) (by omega) at_ seed ⟨h0,by omega,h2,h3⟩;obtain ⟨e,s2,he,hek,he3,g3,g4⟩:=entry_draw3 code hc (at_+1) s1 ⟨by omega,by omega,g1,g2⟩ (by omega);have hwr : wrap64 (((m+1 : Nat) : Int) - 1)=(m : Int):=by rw [w64 (by omega) (by omega)];omega
  cases b with
  | true =>
   have hd:=drop_spec T n e f1 f2 f3 hw.rise
   by_cases ht : th e (pageN T e).f1=true
   ·
    rw [if_pos ht] at hd
    obtain ⟨T',n',a',s',hl,hw'⟩:=tree_loop3 code hc m (c+1) (at_+1+2) s2 (dropT T e) n (by omega) (by omega) (by omega) g3 g4 (dropT_WF hw e ht) (dropT_Sm hw hs e ((th_in hw e).1 ht));refine ⟨T',n',a',s',Eve.succ ?_,hw'⟩;simp only [Fb.l0,hb,he,Option.bind_some,hwr,if_true];refine Eve.ite (fun _=>?_) (fun h=>absurd (by omega) h);exact Eve.bind hd hl
   rw [if_neg ht] at hd;obtain ⟨T',n',a',s',hl,hw'⟩:=tree_loop3 code hc m c (at_+1+2) s2 T n (by omega) (by omega) (by omega) g3 g4 hw hs;refine ⟨T',n',a',s',Eve.succ ?_,hw'⟩;simp only [Fb.l0,hb,he,Option.bind_some,hwr,if_true];refine Eve.ite (fun _=>?_) (fun h=>absurd (by omega) h);exact Eve.bind hd hl
  | false =>
   have hp:=put_spec T n e f1 f2 f3 (by omega);obtain ⟨T',n',a',s',hl,hw'⟩:=tree_loop3 code hc m (c+1) (at_+1+2) s2 (putB T n e).1 (putB T n e).2.1 (by omega) (by omega) (by omega) g3 g4 (putB_WF hw e hek) (putB_Sm hw hs (by omega) e he3);refine ⟨T',n',a',s',Eve.succ ?_,hw'⟩;simp only [Fb.l0,hb,he,Option.bind_some,hwr,Bool.false_eq_true,if_false];refine Eve.ite (fun _=>?_) (fun h=>absurd (by omega) h);exact Eve.bind hp hl
theorem treeOf_small (code : List Int) (hc : ∀ b ∈ code,0≤b∧b≤255) : ∃ T n,Eve (fun k=>F09.f k code) (T,n)∧WF T n∧Sm T n 30:=by
 have hs : 0≤(code.length : Int) % 1000∧(code.length : Int) % 1000<2147483648:=by omega
 obtain ⟨v,s,hv,hv0,hv1,h2,h3⟩:=next_draw code hc 24 (by omega) (by omega) 0 ((code.length : Int) % 1000) ⟨by omega,by omega,hs.1,hs.2⟩;obtain ⟨m,rfl⟩ : ∃ m : Nat,v=(m : Int):=⟨v.toNat,by omega⟩;obtain ⟨T',n',a',s',hl,hw⟩:=tree_loop3 code hc m 1 (0+1) s [(⟨1,[]⟩ : IPag)] 2 (by omega) (by omega) (by omega) h2 h3 newT_WF ⟨by simp,by omega,by simp⟩;refine ⟨T',n',?_,hw⟩;simp only [F09.f,F0g.f,Option.bind_some,Fb.f,F0n.f,hv];exact Eve.bind hl Eve.one
theorem fl_all (E : List IEnt) : fl (⟨#[]⟩ : ByteArray) (⟨#[]⟩ : ByteArray) true E=E:=by
 unfold fl;refine List.filter_eq_self.2 (fun e _=>?_);unfold ihas
 have : Op.bytesLess e.f0.toList (⟨#[]⟩ : ByteArray).toList=false:=by
  have h0 : (⟨#[]⟩ : ByteArray).toList=[]:=by rw [ba_toList]
  rw [h0]
  cases e.f0.toList <;> rfl
 rw [this];rfl
theorem byte_of {x : List Int} (h : ∀ y ∈ x,(Lit.int .u8 y).wf=true) : ∀ b ∈ x,0≤b∧b≤255:=fun b hb=>by
 have:=h b hb;simp [Lit.wf,IntKind.min,IntKind.max,IntKind.signed,IntKind.bits] at this
 omega
theorem step_ord {a b : IEnt} (h : el a b=true) : ¬ Op.bytesLess b.f0.toList a.f0.toList=true∧(a.f0.toList=b.f0.toList → ¬ a.f1 ≥ b.f1):=by
 unfold el at h;simp only [Bool.or_eq_true,Bool.and_eq_true,decide_eq_true_eq] at h;rcases h with h|⟨h1,h2⟩
 ·
  exact ⟨by rw [bl_asymm h];decide,fun he=>by rw [he,less_irrefl] at h;cases h⟩
 exact ⟨by rw [h1,less_irrefl];decide,fun _=>by omega⟩
theorem count_loop (E : List IEnt) (e : IEnt) (hE : E.length≤1048576) (hr : Rise E) (hm : e ∈ E) : Eve (fun k=>F0.l0 k E 0 0 e.f0 e.f1) true:=by
 have hone : E.countP (fun x=>x.f0.toList == e.f0.toList && x.f1 == e.f1)=1:=by
  obtain ⟨i,hi,hie⟩:=List.getElem_of_mem hm;have hsp:=list_is E i hi;rw [hie] at hsp;have hnd:=rise_nodup hr;rw [hsp] at hnd ⊢;have hp:=List.Perm.nodup_iff (List.perm_middle (a:=e) (l₁:=E.take i) (l₂:=E.drop (i+1)));have hn2:=List.nodup_cons.1 (hp.1 hnd)
  have hz : ∀ l : List IEnt,(∀ x ∈ l,x≠e)→l.countP (fun x=>x.f0.toList == e.f0.toList && x.f1 == e.f1)=0:=fun l h=>by
   rw [List.countP_eq_zero];intro x hx hc;simp only [Bool.and_eq_true,beq_iff_eq] at hc;exact h x hx (ent_eq hc.1 hc.2)
  rw [List.countP_append,List.countP_cons,hz _ (fun x hx he=>hn2.1 (by rw [← he];exact List.mem_append.2 (.inl hx))),hz _ (fun x hx he=>hn2.1 (by rw [← he];exact List.mem_append.2 (.inr hx)))];simp
 refine ev_loop0 E (fun k (s : Nat) i=>F0.l0 k E (s : Int) i e.f0 e.f1) (fun _ _ _=>true) (fun i s=>s=(E.take i).countP (fun x=>x.f0.toList == e.f0.toList && x.f1 == e.f1)∧s≤i) (fun s hs=>?_) (fun i hi_ s hs ih=>?_) 0 ⟨by simp,Nat.le_refl _⟩
 ·
  simp only [F0.l0]
  refine Eve.ite (fun h=>absurd h (by omega)) (fun _=>Eve.one.eq ?_);rw [hs.1,List.take_length,hone];rfl
 have htk : (E.take (i+1)).countP (fun x=>x.f0.toList == e.f0.toList && x.f1 == e.f1)=s+(if (E[i].f0.toList == e.f0.toList && E[i].f1 == e.f1)=true then 1 else 0):=by
  rw [List.take_succ_eq_append_getElem hi_,List.countP_append,← hs.1,List.countP_cons,List.countP_nil,Nat.zero_add]
 have hj : Eve (fun k=>F0.j3 k E (s : Int) (i : Int) false e.f0 e.f1) true:=by
  refine Eve.succ ?_;simp only [F0.j3,Bool.false_eq_true,if_false,rdIE E i hi_,wi (show i≤9223372036854775806 by omega),wi (show s≤9223372036854775806 by have:=hs.2;omega)];refine Eve.ite (fun _=>?_) (fun h=>absurd (by omega) h);refine Eve.ite (fun _=>?_) (fun h=>absurd (by omega) h);refine Eve.ite (fun h=>?_) (fun h=>?_)
  ·
   rw [if_pos h] at htk
   exact ih (s+1) ⟨htk.symm,by have:=hs.2;omega⟩
  rw [if_neg h] at htk;exact ih s ⟨htk.symm,by have:=hs.2;omega⟩
 simp only [F0.l0];refine Eve.ite (fun _=>?_) (fun h=>absurd (by omega) h);refine Eve.ite (fun h0=>?_) (fun _=>hj);obtain ⟨p,rfl⟩ : ∃ p,i=p+1:=⟨i - 1,by omega⟩;have hwr : wrap64 (((p+1 : Nat) : Int) - 1)=(p : Int):=by rw [w64 (by omega) (by omega)];omega
 have ho:=step_ord (rise_at hr p (p+1) (by omega) hi_ (by omega));simp only [hwr,rdIE E p (by omega),rdIE E (p+1) hi_];refine Eve.ite (fun _=>?_) (fun h=>absurd (by omega) h);refine Eve.ite (fun _=>?_) (fun h=>absurd (by omega) h);refine Eve.ite (fun _=>?_) (fun h=>absurd (by omega) h);refine Eve.ite (fun h=>absurd h ho.1) (fun _=>?_);refine Eve.ite (fun h=>?_) (fun _=>hj);rw [decide_eq_false (ho.2 h)];exact hj
theorem WF.sz {T : List IPag} {n : Int} (hw : WF T n) : T.length≤1048576∧(∀ p ∈ T,p.f1.length≤1048576)∧(T.flatMap (·.f1)).length≤1048576:=by
 have h60:=hw.len.2;refine ⟨by omega,fun p h=>by have:=hw.small p h;omega,?_⟩
 have : ∀ (l : List IPag),(∀ p ∈ l,p.f1.length≤4)→(l.flatMap (·.f1)).length≤4*l.length:=by
  intro l
  induction l with
  | nil=>intro _;simp
  | cons p ps ih =>
   intro h;have h1:=h p (by simp);have h2:=ih (fun q hq=>h q (by simp [hq]));rw [List.flatMap_cons,List.length_append,List.length_cons];omega
 exact Nat.le_trans (this T hw.small) (by omega)
theorem FnTree : F0.Pure:=by
 rintro x0 x1 ⟨hl0,hb0⟩ ⟨hl1,hb1⟩;have hc0:=byte_of hb0;have hc1:=byte_of hb1;refine Eve.get (g:=fun k=>F0.f k x0 x1) ?_;have hout : Eve (fun k=>F0.j0 k x0 x1 true) true:=Eve.succ (by simp only [F0.j0,if_true];exact Eve.one);simp only [F0.f];refine Eve.ite (fun _=>hout) (fun hz0=>?_)
 by_cases hz1 : (x1.length : Int) > 1048576
 ·
  rw [decide_eq_true hz1];exact hout
 rw [decide_eq_false hz1];obtain ⟨T,n,hTd,hw,hs⟩:=treeOf_small x0 hc0;obtain ⟨e1,he1,hz⟩:=entryOf_draws x1 hc1;obtain ⟨e,hf0,hf1⟩ : ∃ e : IEnt,e.f0=e1.f0∧e.f1=77:=⟨⟨e1.f0,77⟩,rfl,rfl⟩
 have hek : eok e=true:=by
  unfold eok inr;rw [hf0,hf1];simp only [Bool.and_eq_true,decide_eq_true_eq]
  omega
 have hne : ¬ e ∈ T.flatMap (·.f1):=fun h=>by have:=hs.ids e h;rw [hf1] at this;omega
 have hs1:=hs.len;have hs2:=hs.nx;obtain ⟨hfl,hcode⟩:=putB_flat hw e hne (by omega) (by omega);have hw1:=putB_WF hw e hek;obtain ⟨T1,n1,q,c,hP⟩ : ∃ T1 n1 q c,putB T n e=(T1,n1,q,c):=⟨_,_,_,_,rfl⟩;rw [hP] at hfl hcode hw1;simp only at hfl hcode hw1;subst hcode;have hin1 : e ∈ T1.flatMap (·.f1):=by rw [hfl];exact flatP_has T e
 have hth1:=(th_in hw1 e).2 hin1;have hw2:=dropT_WF hw1 e hth1;have hpm:=drop_flat hw1 e hin1;obtain ⟨T2,hT2⟩ : ∃ T2,T2=dropT T1 e:=⟨_,rfl⟩;rw [← hT2] at hw2 hpm;have hne2 : ¬ e ∈ T2.flatMap (·.f1):=(List.nodup_cons.1 ((List.Perm.nodup_iff hpm).1 (rise_nodup hw1.rise))).1;have hth2 : ¬ th e (pageN T2 e).f1=true:=fun h=>hne2 ((th_in hw2 e).1 h);have hL1:=flatP_length hw e;rw [← hfl] at hL1;have hL2:=hpm.length_eq;rw [List.length_cons] at hL2;obtain ⟨z1,z2,z3⟩:=hw.sz;obtain ⟨y1,y2,y3⟩:=hw1.sz;obtain ⟨v1,v2,v3⟩:=hw2.sz;have ti1:=treePut_impl T n e z1 z3;have ti2:=treePut_spec T n e z1 z2;have hA : putA T n e=(T1,n1,q,0):=by unfold putA;rw [if_pos ⟨hw.tok,hek⟩,hP]
 rw [hA,hf0,hf1] at ti1 ti2;have ti3:=treePut_impl T1 n1 e y1 y3;have hA1 : putA T1 n1 e=(T1,n1,0,12):=by unfold putA;rw [if_pos ⟨hw1.tok,hek⟩];unfold putB;rw [if_pos hth1]
 rw [hA1,hf0,hf1] at ti3;have td1:=treeDrop_impl T1 n1 e y1 y3;have hD1 : dropA T1 n1 e=(T2,n1,0):=by unfold dropA;rw [if_pos ⟨hw1.tok,hek⟩,if_pos hth1,hT2]
 rw [hD1,hf0,hf1] at td1;have td2:=treeDrop_impl T2 n1 e v1 v3;have hD2 : dropA T2 n1 e=(T2,n1,5):=by unfold dropA;rw [if_pos ⟨hw2.tok,hek⟩,if_neg hth2]
 rw [hD2,hf0,hf1] at td2;obtain ⟨-,a2,-,-⟩:=range_both T1 n1 (⟨#[]⟩ : ByteArray) (⟨#[]⟩ : ByteArray) true y1 y3 y2 hw1.tok;rw [fl_all] at a2;have p1:=pageAt_tells T1 n1 e y1 y3 hw1.tok hek hw1.len.1;have p2:=specPage_tells T1 n1 e y1 y2 hw1.tok hek hw1.len.1;rw [hf0,hf1] at p1 p2;have hcl:=count_loop (T1.flatMap (·.f1)) e y3 hw1.rise hin1;rw [hf0,hf1] at hcl;refine Eve.succ ?_;simp only [F0.j0,Bool.false_eq_true,if_false];refine Eve.bind hTd ?_;simp only [he1,Option.bind_some];refine Eve.bind ti1 ?_;refine Eve.bind ti2 ?_;refine Eve.bind (size_tells T n z1 z3 hw.tok) ?_;refine Eve.bind (size_tells T1 n1 y1 y3 hw1.tok) ?_;refine Eve.bind ti3 ?_;refine Eve.bind td1 ?_;refine Eve.bind td2 ?_;refine Eve.bind (size_tells T2 n1 v1 v3 hw2.tok) ?_;refine Eve.bind a2 ?_;refine Eve.bind p1 ?_;refine Eve.bind p2 ?_;simp only [if_true];refine Eve.bind (sameT_self T1 n1 y1 y2) ?_;simp only [if_true];refine Eve.bind (implOK_tells T1 n1 y1 y3) ?_;have hk1:=hw1.tok;have hk2:=hw2.tok;simp only [hk1,if_true];refine Eve.ite (fun _=>?_) (fun h=>absurd (by rw [w64 (by omega) (by omega)];omega) h);refine Eve.ite (fun _=>?_) (fun h=>absurd (by omega) h);refine Eve.bind (implOK_tells T2 n1 v1 v3) ?_;simp only [hk2,if_true];refine Eve.ite (fun _=>?_) (fun h=>absurd (by rw [nam_open hw1]) h);simp only [bne_self_eq_false];refine Eve.succ ?_;simp only [F0.j1,Bool.false_eq_true,if_false];exact hcl
end Go.Proofs.Ytgifonogfgpjdaa.Pure
end
section
namespace Go.Proofs.Ytgifonogfgpjdaa.fnTree
open Go.ChangeShapes Go.WideShapes Go.ChangeAt Go.RowKit Go.Proofs.YtgifonogfgpjdaaW.PrintWords Go.Proofs.YtgifonogfgpjdaaW.PrintOpen Go.Proofs.Ytgifonogfgpjdaa.Q
open Go.ChangeMaps (open_string shut_string)
set_option linter.unusedVariables false
theorem own : ownKnob Try.prog.godebug=none:=by kernel_rfl
theorem laidOut : laidOutB Try.prog=true:=by kernel_rfl
set_option maxRecDepth 100000 in
theorem lifted (os : Os) (started : os.Started) (H : Type) (enc : TypeId×Value→H) :
  ReturnsInHanded {} Try.checked os 4 .any (Rows.fnTreeSpec.pre6 enc Try.prog Try.f4 Rows.fnTreeRow.domain false) (Rows.fnTreeSpec.post enc Try.prog Try.f4 false true false false):=by
 refine returnsInHanded_of_change_sized (C:=Try.checked) own started jA Try.func4
  (ChangeSpec.witness6 (enc:=enc) (C:=Try.checked) false ⟨#[],#[.slice none 0 0,.slice none 0 0],[]⟩ 8 jA jA jA jA) ?_
 intro W base args ds gs before hval0 hW hcnd hsz0 _
 have hval : ∀ (j : Nat) t v,Try.f4.params[j]? = some t→args[j]? = some v→Value.okWide Try.prog W .any base t v:=hval0
 have hW':=hW
 obtain ⟨p,q,hA0,hV,rfl,hfz,hnd⟩:=hW
 have hA : DataW.TrodAll enc Try.prog W 0 (fun _=>true) true Try.f4.params.toList args.toList ds p:=hA0
 rw [Try.params4] at hA hval
 obtain ⟨v0,vs0,d0,ds0,p0,q0,hargs,rfl,rfl,h0,r0⟩:=trodAll_cons hA
 obtain ⟨v1,vs1,d1,ds1,p1,q1,rfl,rfl,rfl,h1,r1⟩:=trodAll_cons r0
 obtain ⟨rfl,rfl,rfl⟩:=trodAll_nil r1
 obtain rfl : args = #[v0,v1]:=by cases args;simp_all
 obtain ⟨rfl,rfl⟩:=trodVars_none hV
 have t0:=h0
 have lt0 : ∀ x ∈ p0,x.block<W.heap.size:=by obtain ⟨m,hm⟩:=t0;exact DataW.trod_lt m _ _ _ hm
 obtain ⟨x0,A0,c0,rfl,hl0,hc0,g0⟩:=arg_slice Try.underlying22 (opens_slice Try.underlying22 jA (opens_int Try.underlying5)) (hval 0 22 v0 rfl rfl) h0
 have t1:=h1
 have lt1 : ∀ x ∈ p1,x.block<W.heap.size:=by obtain ⟨m,hm⟩:=t1;exact DataW.trod_lt m _ _ _ hm
 obtain ⟨x1,A1,c1,rfl,hl1,hc1,g1⟩:=arg_slice Try.underlying22 (opens_slice Try.underlying22 jA (opens_int Try.underlying5)) (hval 1 22 v1 rfl rfl) h1
 clear hA0 hval0 hsz0
 obtain ⟨k,hp⟩:=Pure.FnTree x0 x1 g0 g1
 refine (F0.calls k A0 c0 x0 A1 c1 x1 true W hc0 hl0 hc1 hl1 hp rfl).mono fun e W' ⟨he,bel0⟩=>?_
 have bel : Below W.heap.size W W':=bel0
 subst he
 exact ⟨_,rfl,_,_,_,[],_,[],hW',trodAll_mk1 (shut_bool Try.underlying4 _),(trodAll_cons_mk (Below.trod laidOut jA (of_decide_eq_true jA) t0 bel lt0) (trodAll_cons_mk (Below.trod laidOut jA (of_decide_eq_true jA) t1 bel lt1) trodAll_mk0)),rfl,bel.frame _,fun h=>by cases h⟩
theorem over : Rows.fnTreeRow.holds Try.pinned (OpenSpec.ofChange Rows.fnTreeSpec) :=
 OpenClaim.holds_of_wide 4 Try.f4 rfl rfl rfl rfl rfl rfl rfl ⟨rfl,rfl,rfl,rfl,rfl⟩ rfl rfl rfl rfl rfl jA Try.func4 jA
  (of_decide_eq_true jA) (by unfold Func.isWrapper;first|(rw [if_pos (by decide +kernel)];kernel_rfl)|(rw [if_neg (by decide +kernel)];exact ⟨rfl,rfl⟩))
  (fun os started H enc _=>lifted os started H enc)
theorem proved : Rows.FnTreeSaid:=over
#print axioms proved
end Go.Proofs.Ytgifonogfgpjdaa.fnTree
namespace Go.Proofs.Ytgifonogfgpjdaa
theorem fnTree_holds : Rows.FnTreeSaid:=fnTree.proved
end Go.Proofs.Ytgifonogfgpjdaa
end
