/- Texts of this claim, merged by a program of this session. -/
import Derived.Test.YtamikhmpfmgofaaKLawFnExactTreeDropp24
import Derived.Test.YtamikhmpfmgofaaKLawFnExactTreeDropp23
import Derived.ProofKit
import Derived.OpenShut
import Derived.ShutString
import Derived.ChangeOld
import Derived.SizedLaws
import Derived.Deep.Slices
import Derived.Lib.SmallJoins
section
namespace Go.Proofs.Ytamikhmpfmgofaa.Q
open Go.RowKit Go.Proofs.YtamikhmpfmgofaaW.PrintWords Go.Proofs.YtamikhmpfmgofaaW.PrintLast Go.Proofs.YtamikhmpfmgofaaW.PrintMore
attribute [local go_sem] max2_int min2_int max_two min_two max_three min_three max_four min_four max2_str min2_str str_geq str_gtr str_leq
set_option linter.unusedVariables false
set_option linter.unusedSimpArgs false

def F02.f (k : Nat) (l0_0 : List (S67)) (a0_1 : Int) (a1_0 : ByteArray) (a1_1 : Int) : Option (Int×Int×Bool):=(F9.f k l0_0 a0_1 a1_0 a1_1).bind fun t483=>(if 0≤t483 then (if t483<(l0_0.length : Int) then ((F4.f k ((rd_T67 l0_0 t483).f1) a1_0 a1_1).bind fun bt485=>(some (t483,bt485.1,bt485.2))) else (none)) else (none))
theorem F02.mono : ∀ a0 a1 a2 a3 k,LeO (F02.f k a0 a1 a2 a3) (F02.f (k+1) a0 a1 a2 a3):=by
 intro a0 a1 a2 a3 k;unfold F02.f
 repeat' first|(with_reducible first|exact F9.mono _ _ _ _ _|exact F4.mono _ _ _ _|exact zQ _|exact zN _|refine zP ?_ ?_|refine zO ?_ (fun _=>?_))|refine zP ?_ ?_|refine zO ?_ (fun _=>?_)
def F02.T2 : Bool×List (List Nat×List Nat):=(true,[([],[]),([0],[0]),([],[]),([1,2],[1,2]),([3],[3]),([4],[4]),([],[]),([5,6],[5,6]),([7],[7]),([8],[8]),([8],[8]),([9,7,0,1,2,3,4,5,6,7,8,9],[9]),([10,11,0,1,2,3,4,5,6,7,8,9,10,11],[10])])
def F02.B2 : List Nat:=[0,1,0,7,15,31,0,127,255,511,511,1023,4095]
theorem F02.tab2 : rtab .any (opsOf Try.f62 2)=F02.T2:=by kernel_rfl
theorem F02.bits2 : waitsOk F02.T2.2 F02.B2=true:=by kernel_rfl
set_option maxHeartbeats 8000000 in
set_option maxRecDepth 100000 in
theorem F02.calls (k : Nat) (A0_0 : Option Addr) (c0_0 : Nat) (l0_0 : List (S67)) (a0_1 : Int) (a1_0 : ByteArray) (a1_1 : Int) (r1 : Int) (r2 : Int) (r3 : Bool) (w : World) (hr0_0 : Kd.C k67 w A0_0 l0_0.length l0_0) (hc0_0 : l0_0.length≤c0_0) (h : F02.f k l0_0 a0_1 a1_0 a1_1=some (r1,r2,r3)) :
  Calls Try.prog 62 #[.agg #[.slice A0_0 l0_0.length c0_0,.int .i64 a0_1],.agg #[.string a1_0,.int .i64 a1_1]] w fun e w' => e = .returned (.tuple #[.int .i64 r1,.int .i64 r2,.bool r3])∧Below w.heap.size w w':=by
 have hu35:=Try.underlying35;have hu51:=Try.underlying51;have HR0_0:=zh hr0_0;have HC0_0:=zh hc0_0;clear hr0_0 hc0_0;have HB:=zh (Below.refl w.heap.size w);have H : ((F9.f k l0_0 a0_1 a1_0 a1_1).bind fun t483=>(if 0≤t483 then (if t483<(l0_0.length : Int) then ((F4.f k ((rd_T67 l0_0 t483).f1) a1_0 a1_1).bind fun bt485=>(some (t483,bt485.1,bt485.2))) else (none)) else (none)))=some (r1,r2,r3):=h;clear h;replace H:=zT.mp H;obtain ⟨t483,A30,H⟩:=H;have A3:=zh A30;clear A30
 by_cases c4 : 0≤t483
 ·
  rw [if_pos c4] at H
  have c4b0 : decide (0≤t483)=true:=decide_eq_true c4;clear c4
  by_cases c5 : t483<(l0_0.length : Int)
  ·
   rw [if_pos c5] at H
   have c5b0 : decide (t483<(l0_0.length : Int))=true:=decide_eq_true c5;clear c5;replace H:=zT.mp H;obtain ⟨⟨t485,t486⟩,A60,H⟩:=H;have A6:=zh A60;clear A60;simp only [Option.some.injEq,Prod.mk.injEq] at H;obtain ⟨rfl,rfl,rfl⟩:=H
   go_enter Try.func62,Try.ntmps62
   try go_wp2_with (first|((with_reducible refine zK (N:=2) rfl ?_);refine zI ?hg (N:=2) ?hd (cs:=#[.slice A0_0 l0_0.length c0_0,.int .i64 a0_1]) (t:=35) ?hr ?_;(case hd=>rfl);(case hg=>rfl);(case hr=>go_simp <;> rfl);intro gb481 hg w7 hbox hb;have BK481:=zh (hbox);have hH_:=cH jE hb hg;have GW481:=zh hH_.1;have GE481:=GW481;replace HB:=zh hH_.2;clear hb hbox hg hH_)|((with_reducible refine zK (N:=3) rfl ?_);refine zI ?hg (N:=3) ?hd (cs:=#[.string a1_0,.int .i64 a1_1]) (t:=51) ?hr ?_;(case hd=>rfl);(case hg=>rfl);(case hr=>go_simp <;> rfl);intro gb482 hg w8 hbox hb;have BK482:=zh (hbox);have hH_:=cH (by repeat (with_reducible first|exact HB.out|apply za|apply zb|apply zc|refine zd ?_ GE481.out)) hb hg;have GW482:=zh hH_.1;have GE482:=GW482;replace HB:=zh hH_.2;have NB481_482:=zh ((by rw [hg];exact yc (yi (g:=gb481) (o:=.cells #[.slice A0_0 l0_0.length c0_0,.int .i64 a0_1] 35 (0,0)) jAc) : gb481≠gb482));have NB482_481:=zh NB481_482.out.symm;replace BK481:=zh (cD BK481.out jAc hb);clear hb hbox hg hH_;have hnb9:=NB481_482.out;have hnc9:=NB482_481.out;obtain ⟨hcz10_0,hcz10_1,hfz10_0,hfz10_1⟩:=cB2 BK481.out;obtain ⟨hcz11_0,hcz11_1,hfz11_0,hfz11_1⟩:=cB2 BK482.out)|((with_reducible refine zJ (f:=36) rfl ?_);refine yj (some 12) rfl rfl Try.func36 jA rfl #[.agg #[.slice A0_0 l0_0.length c0_0,.int .i64 a0_1],.agg #[.string a1_0,.int .i64 a1_1]] rfl jF ?_;(with_reducible refine (F9.calls k  _ _ l0_0 a0_1 a1_0 a1_1 t483 _ ?side1 ?side2 A3.out).mono ?_);(case side1=>repeat (first|exact (Kd.C_below HR0_0.out HB.out)|(with_reducible refine Kd.C_alloc ?_ _)|(with_reducible refine Kd.C_drewN ?_ _)|(with_reducible refine Kd.C_drew ?_)));(case side2=>exact HC0_0.out);rintro e w12 ⟨rfl,hb⟩;refine ⟨_,rfl,?_⟩;replace BK481:=zh (cD BK481.out jAc hb);replace BK482:=zh (cD BK482.out jBf hb);replace HB:=zh (zC jA7 hb);(try clear hb);(try clear hb2);(try clear hk);(try clear hi)))
   replace BK481:=zh (zf BK481.out);replace BK482:=zh (zf BK482.out);replace HB:=zh (zc HB.out);have p484 : 0≤(t483 : Int):=zy jB;have q484 : t483<(l0_0.length : Int):=zy jB;obtain ⟨ad484,A484_1,c484_1,e484,hx484_0,hx484_1,hl484_1,hi484_1⟩:=at_T67 HR0_0.out t483 p484 q484;have hw484_1:=hx484_1;have hw484_0:=hx484_0
   cases e484
   replace hx484_0:=(HB.out.cell (zl w _ hx484_0)).trans hx484_0;replace hx484_1:=(HB.out.cell (zl w _ hx484_1)).trans hx484_1;have HR484_1:=zh hi484_1;have HC484_1:=zh hl484_1;clear hi484_1 hl484_1;replace p484:=eq_true p484;replace q484:=eq_true q484;refine start_ (n:=13) (S:=fun w' => w'.cell? ⟨gb481,0,none⟩=some (.slice (some ad484) l0_0.length c0_0)∧w'.cell? ⟨gb481,1,none⟩=some (.int .i64 a0_1)∧w'.cell? ⟨gb482,0,none⟩=some (.string a1_0)∧w'.cell? ⟨gb482,1,none⟩=some (.int .i64 a1_1)∧w'.cell? (ad484.add ((t483).toNat*2))=some (.int .i64 ((rd_T67 l0_0 t483).f0))∧w'.cell? ⟨(ad484.add ((t483).toNat*2)).block,(ad484.add ((t483).toNat*2)).off+1,none⟩=some (.slice A484_1 ((rd_T67 l0_0 t483).f1).length c484_1)) (ds:=[]) (bm_ 0 13) jA rfl rfl ⟨(zz BK481.out 0).trans rfl,(zz BK481.out 1).trans rfl,(zz BK482.out 0).trans rfl,(zz BK482.out 1).trans rfl,((HB.out.cell (zl w _ hw484_0)).trans hw484_0),((HB.out.cell (zl w _ hw484_1)).trans hw484_1)⟩ (fun hHeld=>?_);refine with_tabW F02.tab2 F02.bits2 (fun HT_ HW_=>?_);generalize w12.drew=w13 at BK481 BK482 HB HR484_1 hx484_0 hx484_1 hHeld ⊢;refine pure_ (i:=0) (N:=some 14) (v:=?_) (a':=?_) (bm_ 1 13) rfl rfl (any_of HT_.out jA) (fun _ _ _ h=>h) (Or.inl ⟨by rfl,?_⟩) ?_ ?_;rotate_left;exact jb;rotate_left;exact jc
   refine pure_ (i:=2) (N:=some 16) (v:=?_) (a':=?_) #[true,false,true,false,false,false,false,false,false,false,false,false,false] rfl rfl (any_of HT_.out jA) (fun _ _ _ h=>h) (Or.inl ⟨by rfl,?_⟩) ?_ ?_;rotate_left;exact jb;rotate_left;exact jc
   refine take_ (i:=1) (N:=some 15) (v:=?_) (a':=?_) (bm_ 3 13) rfl rfl (yo HT_.out HW_.out jA) (fun _ _ _ h=>h) (Or.inl ⟨by rfl,?_⟩) hHeld ?_ ?_;rotate_left
   ·
    rintro w' ⟨s0,s1,s2,s3,s4,s5⟩
    go_simp
    with_reducible rfl
   rotate_left
   exact jc
   refine pure_ (i:=3) (N:=some 17) (v:=?_) (a':=?_) (bm_ 4 13) rfl rfl (any_of HT_.out jA) (fun _ _ _ h=>h) (Or.inl ⟨by rfl,?_⟩) ?_ ?_;rotate_left;exact jb;rotate_left;exact jc
   refine pure_ (i:=4) (N:=some 18) (v:=?_) (a':=?_) (bm_ 5 13) rfl rfl (any_of HT_.out jA) (fun _ _ _ h=>h) (Or.inl ⟨by rfl,?_⟩) ?_ ?_;rotate_left;exact jb;rotate_left;exact jc
   refine take_ (i:=5) (N:=some 19) (v:=?_) (a':=?_) (bm_ 6 13) rfl rfl (yo HT_.out HW_.out jA) (fun _ _ _ h=>h) (Or.inl ⟨by rfl,?_⟩) hHeld ?_ ?_;rotate_left
   ·
    rintro w' ⟨s0,s1,s2,s3,s4,s5⟩
    go_simp
    with_reducible rfl
   rotate_left
   exact jc
   refine take_ (i:=6) (N:=some 20) (v:=?_) (a':=?_) (bm_ 7 13) rfl rfl (yo HT_.out HW_.out jA) (fun _ _ _ h=>h) (Or.inl ⟨by rfl,?_⟩) hHeld ?_ ?_;rotate_left
   ·
    rintro w' ⟨s0,s1,s2,s3,s4,s5⟩
    go_simp
    with_reducible rfl
   rotate_left
   exact jc
   refine one_ (i:=7) (N:=some 21) (bm_ 8 13) rfl rfl (one_of HT_.out jA) jC (fun K hK=>?_);refine goes_ Try.func73 jA rfl #[.slice A484_1 ((rd_T67 l0_0 t483).f1).length c484_1,.agg #[.string a1_0,.int .i64 a1_1],.func (.func 58) #[] #[]] (by rfl) rfl rfl jF ?_
   with_reducible refine (F4.calls k  _ _ ((rd_T67 l0_0 t483).f1) a1_0 a1_1  t485 t486 _ ?side1 ?side2 A6.out).mono ?_
   (case side1=>repeat (first|exact (Kd.C_below HR484_1.out HB.out)|(with_reducible refine Kd.C_alloc ?_ _)|(with_reducible refine Kd.C_drewN ?_ _)|(with_reducible refine Kd.C_drew ?_)))
   (case side2=>exact HC484_1.out)
   rintro e w14 ⟨rfl,hb⟩;refine ⟨_,rfl,?_⟩;replace BK481:=zh (cD BK481.out jAc hb);replace BK482:=zh (cD BK482.out jBf hb);replace HB:=zh (zC jA7 hb);(try clear hb);(try clear hb2);(try clear hk);(try clear hi);refine hK.out _ _ ⟨(zz BK481.out 0).trans rfl,(zz BK481.out 1).trans rfl,(zz BK482.out 0).trans rfl,(zz BK482.out 1).trans rfl,((HB.out.cell (zl w _ hw484_0)).trans hw484_0),((HB.out.cell (zl w _ hw484_1)).trans hw484_1)⟩ (fun hHeld=>?_);clear hK K;refine norm_ (a':=?_) ?_ ?_;rotate_left
   ·
    show Act.put _ (some 21) _=_
    simp only [Act.put,zi,zj,zk,zG,zH]
    rfl
   refine pure_ (i:=8) (N:=some 13) (v:=?_) (a':=?_) (bm_ 9 13) rfl rfl (any_of HT_.out jA) (fun _ _ _ h=>h) (Or.inl ⟨by rfl,?_⟩) ?_ ?_;rotate_left;exact jb;rotate_left;exact jc
   refine pure_ (i:=9) (N:=some 22) (v:=?_) (a':=?_) (bm_ 10 13) rfl rfl (any_of HT_.out jA) (fun _ _ _ h=>h) (Or.inl ⟨by rfl,?_⟩) ?_ ?_;rotate_left;exact jb;rotate_left;exact jc
   refine pure_ (i:=10) (N:=some 23) (v:=?_) (a':=?_) (bm_ 11 13) rfl rfl (any_of HT_.out jA) (fun _ _ _ h=>h) (Or.inl ⟨by rfl,?_⟩) ?_ ?_;rotate_left;exact jb;rotate_left;exact jc
   refine pure_ (i:=11) (N:=some 8) (v:=?_) (a':=?_) (bm_ 12 13) rfl rfl (any_of HT_.out jA) (fun _ _ _ h=>h) (Or.inl ⟨by rfl,?_⟩) ?_ ?_;rotate_left;exact jb;rotate_left;exact jc
   refine pure_ (i:=12) (N:=some 9) (v:=?_) (a':=?_) (bm_ 13 13) rfl rfl (any_of HT_.out jA) (fun _ _ _ h=>h) (Or.inl ⟨by rfl,?_⟩) ?_ ?_;rotate_left;exact jb;rotate_left;exact jc
   refine done_ (done_of HT_.out jA) ?_
   try go_wp2
   go_ret3
   exact ⟨jG,jA7⟩
  rw [if_neg c5] at H;exact absurd H (by simp)
 rw [if_neg c4] at H;exact absurd H (by simp)


theorem Fx.R_behind {α : Type} {d : Kd α} {e base g n cap : Nat} {ok : Nat→Prop} {W : World} {xs : List α}
  (h : d.R e W base ok (.slice (some ⟨g,0,none⟩) n cap) xs) (o : Nat) (seg : List Value) (hno : n*d.sz≤o) (hs : o+seg.length≤cap*d.sz) :
  d.R e (W.setCells g o seg) base ok (.slice (some ⟨g,0,none⟩) n cap) xs∧W.grownBy (W.setCells g o seg) (some g):=by
 obtain ⟨hn,hnc,_⟩:=yh h;obtain ⟨hok,inner,ho,hr⟩:=h;obtain ⟨ho1,ho2⟩:=ho;rcases ho2 with ⟨hv,_⟩|⟨g',cap',cur,hv,hb,hh,hnc',hcm,hcs,ht⟩
 ·
  cases hv
 injection hv with ha _ hc;injection ha with ha;injection ha with hg;subst hg;subst hc;have hfit : o+seg.length≤cur.size:=by rw [hcs];omega
 obtain ⟨cur',h3,h4,h5⟩:=setCells_row seg o W cur hh hfit;obtain ⟨s1,s2,s3,s4⟩:=setCells_same g seg o W;have hfar : ∀ k,k≠g→(W.setCells g o seg).heap[k]? = W.heap[k]?:=fun k hk=>setCells_far seg _ k hk;have hgo : some g=(Value.slice (some ⟨g,0,none⟩) n cap).ownBlock:=by simp [Value.ownBlock]
 refine ⟨⟨hok,inner,⟨ho1,.inr ⟨g,cap,cur',by rw [hn],hb,h3,hnc',hcm,by rw [h4,hcs],?_⟩⟩,?_⟩,
  ⟨s1,s2,s3,by rw [s4];exact ye _,fun k _ hk=>hfar k (fun he=>hk (by rw [he]))⟩⟩
 ·
  rw [← ht]
  apply List.ext_getElem?
  intro q;rw [List.getElem?_take,List.getElem?_take,h5]
  by_cases hq : q<xs.length*d.sz
  ·
   rw [if_pos hq,if_pos hq,seg_get cur.toList seg o (by rw [Array.length_toList];omega) q,if_pos (by rw [← hn] at hq;omega)]
  rw [if_neg hq,if_neg hq]
 exact hr.imp_ (fun x cs hM=>Kd.M_step hM (fun k hk _=>hfar k (fun he=>hk.2 (by rw [he];exact hgo))))
theorem Fx.run_clear {P : Program} (w : World) (t e ty : TypeId) (z : Value) (ht : P.underlying t=some (.slice e)) (hv : ∀ w,(zeroValue e).run P w = .ok z w) (h1 : ∀ i,i<z.cells.size→(z.cells[i]!).oneCell' = true) (b o n c : Nat) (hn : 0<n)
  (hc : ∀ j,j<n*z.cells.size→(w.cell? ⟨b,o+j,none⟩).isSome=true) (hf : ∀ j,j<n*z.cells.size→w.frozen? ⟨b,o+j,none⟩=false) :
  (Builtin.clear_ #[t] ty #[.slice (some ⟨b,o,none⟩) n c]).run P w = .ok (.tuple #[]) (w.setCells b o (Builtin.zeroCells z.cells n).toList):=by
 have hlen : (Builtin.zeroCells z.cells n).toList.length=n*z.cells.size:=by simp [Builtin.zeroCells]
 have hst:=run_storeCells_cells (P:=P) b o (Builtin.zeroCells z.cells n).toList 0 w (by rw [hlen];simpa using hc) (by rw [hlen];simpa using hf) (by
  intro v hv';simp only [Builtin.zeroCells,Array.toList_map,Array.toList_range,List.mem_map,List.mem_range] at hv';obtain ⟨i,hi,rfl⟩:=hv'
  have hz : 0<z.cells.size:=by
   rcases Nat.eq_zero_or_pos z.cells.size with h|h
   ·
    rw [h] at hi;simp at hi
   exact h
  exact h1 _ (Nat.mod_lt _ hz))
 simp only [Nat.add_zero] at hst;obtain ⟨m,rfl⟩ : ∃ m,n=m+1:=⟨n - 1,jH⟩;simp [Builtin.clear_,run_underlying ht,hv,hst]
theorem Fx.zeros_length (z : Array Value) (n : Nat) : (Builtin.zeroCells z n).toList.length=n*z.size:=by simp [Builtin.zeroCells]
theorem Fx.there {α : Type} {d : Kd α} {e base g n cap : Nat} {ok : Nat→Prop} {W : World} {xs : List α} (h : d.R e W base ok (.slice (some ⟨g,0,none⟩) n cap) xs) (j : Nat) (hj : j<cap*d.sz) : (W.cell? ⟨g,j,none⟩).isSome=true∧W.frozen? ⟨g,j,none⟩=false:=by
 obtain ⟨_,inner,⟨_,h⟩,_⟩:=h;rcases h with ⟨hv,_⟩|⟨g',cap',cur,hv,_,hh,_,_,hcs,_⟩
 ·
  cases hv
 injection hv with ha _ hc;injection ha with ha;injection ha with hg;subst hg;subst hc;refine ⟨?_,zA hh j⟩;rw [zz hh,Array.getElem?_eq_getElem (by rw [hcs];exact hj)];rfl
def Fx.f (l0 : List S51) (a1 : Int) (a2 : Int) : Option (List S51):=if 0≤a1 then (if a1<(l0.length : Int) then (if a2=a1+1 then (if l0.length≤4611686018427387904 then (some (l0.eraseIdx a1.toNat)) else none) else none) else none) else none
set_option maxHeartbeats 4000000 in
set_option maxRecDepth 100000 in
theorem Fx.calls (P0_ : Nat→Prop) (u9000_ : Value) (l0 : List S51) (a1 : Int) (a2 : Int) (r : List S51) (w0 w : World) (hB : Below w0.heap.size w0 w) (ho0 : Kd.R k51 51 w w0.heap.size P0_ u9000_ l0) (h : Fx.f l0 a1 a2=some r) :
  Calls Try.prog 63 #[u9000_,.int .i64 a1,.int .i64 a2] w fun e w' => ∃ v0_ : Value,e = .returned (v0_)∧Kd.R k51 51 w' w0.heap.size (fun k_=>(P0_ k_∨w.heap.size≤k_)) v0_ r∧Below w0.heap.size w0 w' ∧ Kept w w' (fun k_=>P0_ k_):=by
 unfold Fx.f at h
 by_cases h0 : 0≤a1
 case neg=>rw [if_neg h0] at h;cases h
 rw [if_pos h0] at h
 by_cases h1 : a1<(l0.length : Int)
 case neg=>rw [if_neg h1] at h;cases h
 rw [if_pos h1] at h
 by_cases h2 : a2=a1+1
 case neg=>rw [if_neg h2] at h;cases h
 rw [if_pos h2] at h
 by_cases h3 : l0.length≤4611686018427387904
 case neg=>rw [if_neg h3] at h;cases h
 rw [if_pos h3] at h;obtain rfl:=zU h;clear h;obtain ⟨i,rfl⟩ : ∃ i : Nat,a1=(i : Int):=⟨a1.toNat,jH⟩;subst h2;have hil : i<l0.length:=by omega
 rw [Int.toNat_natCast];obtain ⟨g,c,rfl,gb,gl,cl,HGc⟩:=Kd.R_form ho0 jH;obtain ⟨hn,hnc,hC⟩:=yh ho0
 have hsz : (Try.prog.info? 51).map (·.size)=some 2:=by have:=info51;cases hq : Try.prog.info? 51 with
  | none=>rw [hq] at this;cases this
  | some i0=>rw [hq] at this;simp at this;simp [this.2.1]
 have hdc : w.drew.heap=w.heap:=rfl;have mixed : Try.prog.follows Departure.mixedOrders=true:=by rfl
 have hi0 : (0 : Int)≤(i : Int):=Int.natCast_nonneg i;have hi1 : (i : Int)≤(l0.length : Int):=by omega
 have hi2 : (i : Int)≤(c : Int):=by omega
 have hi3 : (0 : Int)≤(i : Int)+1:=by omega
 have hi4 : (i : Int)+1≤(l0.length : Int):=by omega
 have hi5 : (l0.length : Int)≤(c : Int):=by omega
 have hi6 : (i : Int)≤(i : Int)+1:=by omega
 have hi7 : (i : Int)+1≤(c : Int):=by omega
 have htn : ((i : Int)+1).toNat=i+1:=by omega
 have hne : ¬ ((i : Int)=(i : Int)+1):=by omega
 have hneb : ((i : Int) == (i : Int)+1)=false:=zY.mpr hne;have hci : ¬ (c=i):=by omega
 by_cases hc1 : c=i+1
 ·
  subst hc1
  go_enter Try.func63,Try.ntmps63
  go_wp2_with fail
  go_region_law_o (refine Kd.R_delete_step k51 (w0:=w0) w0.heap.size (by rfl) (.tmp 22) (.tmp 25) 29 51 (by rfl) Try.underlying29 hsz (g:=g) (n:=l0.length) (c:=i+1) (k:=i) (m:=l0.length - (i+1)) (c2:=0) (A:=some ⟨g,0,none⟩) jAd jAe (by rw [if_pos rfl]) rfl (zo ho0) hil (below_drew hB) hB.size ?_;intro w1 hR1 hb1 hg1)
  have hg2 : w.grownBy w1 (some g):=⟨hg1.os,hg1.tape,hg1.output,hg1.size,hg1.block⟩
  have hcl : ∀ ty,(Builtin.clear_ #[29] ty #[.slice (some ⟨g,(l0.length - 1)*2,none⟩) (l0.length - (l0.length - 1)) (i+1 - (l0.length - 1))]).run Try.prog w1 = .ok (.tuple #[]) (w1.setCells g ((l0.length - 1)*2) (Builtin.zeroCells ((.agg #[(.string ⟨#[]⟩),(.int .i64 0)]) : Value).cells (l0.length - (l0.length - 1))).toList) :=
   fun ty=>Fx.run_clear w1 29 51 ty (.agg #[(.string ⟨#[]⟩),(.int .i64 0)]) Try.underlying29 (fun w=>by rfl) (fun q hq=>by
    have hq' : q<2:=hq;obtain rfl|rfl : q=0∨q=1:=by omega
    ·
     rfl
    rfl) g ((l0.length - 1)*2) (l0.length - (l0.length - 1)) (i+1 - (l0.length - 1)) jH (fun q hq=>(Fx.there hR1 _ (by have hq' : q<(l0.length - (l0.length - 1))*2:=hq;show _<(i+1)*2;omega)).1) (fun q hq=>(Fx.there hR1 _ (by have hq' : q<(l0.length - (l0.length - 1))*2:=hq;show _<(i+1)*2;omega)).2)
  have HT:=zh (Fx.R_behind hR1 ((l0.length - 1)*2) (Builtin.zeroCells ((.agg #[(.string ⟨#[]⟩),(.int .i64 0)]) : Value).cells (l0.length - (l0.length - 1))).toList (ye _) (by
   rw [Fx.zeros_length];show (l0.length - 1)*2+(l0.length - (l0.length - 1))*2≤(i+1)*2
   omega))
  have hPg : P0_ g:=ho0.1 g rfl;have G2:=zh (yz HT.out.2 (yz hg2 (Kept.refl w (fun k_=>P0_ k_)) (fun k hk => .inl jn)) (fun k hk => .inl jn));have G3:=zh (pw_below_grown hb1 (some g) hb1.size HT.out.2 (fun k hk=>by injection hk with hk;subst hk;exact gb));clear hR1 hb1 hg1 hg2 ho0 hB HGc hC;have hcn : ¬ (i+1=l0.length - 1):=by omega
  have hj1 : (0 : Int)≤((l0.length - 1 : Nat) : Int):=Int.natCast_nonneg _;have hj2 : ((l0.length - 1 : Nat) : Int)≤(l0.length : Int):=by omega
  go_wp2_with fail
  go_ret
  exact ⟨_,rfl,zM HT.out.1 (fun _ hk => .inl hk),G3.out,G2.out⟩
 go_enter Try.func63,Try.ntmps63
 go_wp2_with fail
 go_region_law_o (refine Kd.R_delete_step k51 (w0:=w0) w0.heap.size (by rfl) (.tmp 22) (.tmp 25) 29 51 (by rfl) Try.underlying29 hsz (g:=g) (n:=l0.length) (c:=c) (k:=i) (m:=l0.length - (i+1)) (c2:=c - (i+1)) (A:=some ⟨g,(i+1)*2,none⟩) jAd jAe jBg rfl (zo ho0) hil (below_drew hB) hB.size ?_;intro w1 hR1 hb1 hg1)
 have hg2 : w.grownBy w1 (some g):=⟨hg1.os,hg1.tape,hg1.output,hg1.size,hg1.block⟩
 have hcl : ∀ ty,(Builtin.clear_ #[29] ty #[.slice (some ⟨g,(l0.length - 1)*2,none⟩) (l0.length - (l0.length - 1)) (c - (l0.length - 1))]).run Try.prog w1 = .ok (.tuple #[]) (w1.setCells g ((l0.length - 1)*2) (Builtin.zeroCells ((.agg #[(.string ⟨#[]⟩),(.int .i64 0)]) : Value).cells (l0.length - (l0.length - 1))).toList) :=
  fun ty=>Fx.run_clear w1 29 51 ty (.agg #[(.string ⟨#[]⟩),(.int .i64 0)]) Try.underlying29 (fun w=>by rfl) (fun q hq=>by
   have hq' : q<2:=hq;obtain rfl|rfl : q=0∨q=1:=by omega
   ·
    rfl
   rfl) g ((l0.length - 1)*2) (l0.length - (l0.length - 1)) (c - (l0.length - 1)) jH (fun q hq=>(Fx.there hR1 _ (by have hq' : q<(l0.length - (l0.length - 1))*2:=hq;show _<c*2;omega)).1) (fun q hq=>(Fx.there hR1 _ (by have hq' : q<(l0.length - (l0.length - 1))*2:=hq;show _<c*2;omega)).2)
 have HT:=zh (Fx.R_behind hR1 ((l0.length - 1)*2) (Builtin.zeroCells ((.agg #[(.string ⟨#[]⟩),(.int .i64 0)]) : Value).cells (l0.length - (l0.length - 1))).toList (ye _) (by
  rw [Fx.zeros_length];show (l0.length - 1)*2+(l0.length - (l0.length - 1))*2≤c*2
  omega))
 have hPg : P0_ g:=ho0.1 g rfl;have G2:=zh (yz HT.out.2 (yz hg2 (Kept.refl w (fun k_=>P0_ k_)) (fun k hk => .inl jn)) (fun k hk => .inl jn));have G3:=zh (pw_below_grown hb1 (some g) hb1.size HT.out.2 (fun k hk=>by injection hk with hk;subst hk;exact gb));clear hR1 hb1 hg1 hg2 ho0 hB HGc hC;have hcn : ¬ (c=l0.length - 1):=by omega
 have hj1 : (0 : Int)≤((l0.length - 1 : Nat) : Int):=Int.natCast_nonneg _;have hj2 : ((l0.length - 1 : Nat) : Int)≤(l0.length : Int):=by omega
 go_wp2_with fail
 go_ret
 exact ⟨_,rfl,zM HT.out.1 (fun _ hk => .inl hk),G3.out,G2.out⟩

theorem Fw.R_behind {α : Type} {d : Kd α} {e base g n cap : Nat} {ok : Nat→Prop} {W : World} {xs : List α}
  (h : d.R e W base ok (.slice (some ⟨g,0,none⟩) n cap) xs) (o : Nat) (seg : List Value) (hno : n*d.sz≤o) (hs : o+seg.length≤cap*d.sz) :
  d.R e (W.setCells g o seg) base ok (.slice (some ⟨g,0,none⟩) n cap) xs∧W.grownBy (W.setCells g o seg) (some g):=by
 obtain ⟨hn,hnc,_⟩:=yh h;obtain ⟨hok,inner,ho,hr⟩:=h;obtain ⟨ho1,ho2⟩:=ho;rcases ho2 with ⟨hv,_⟩|⟨g',cap',cur,hv,hb,hh,hnc',hcm,hcs,ht⟩
 ·
  cases hv
 injection hv with ha _ hc;injection ha with ha;injection ha with hg;subst hg;subst hc;have hfit : o+seg.length≤cur.size:=by rw [hcs];omega
 obtain ⟨cur',h3,h4,h5⟩:=setCells_row seg o W cur hh hfit;obtain ⟨s1,s2,s3,s4⟩:=setCells_same g seg o W;have hfar : ∀ k,k≠g→(W.setCells g o seg).heap[k]? = W.heap[k]?:=fun k hk=>setCells_far seg _ k hk;have hgo : some g=(Value.slice (some ⟨g,0,none⟩) n cap).ownBlock:=by simp [Value.ownBlock]
 refine ⟨⟨hok,inner,⟨ho1,.inr ⟨g,cap,cur',by rw [hn],hb,h3,hnc',hcm,by rw [h4,hcs],?_⟩⟩,?_⟩,
  ⟨s1,s2,s3,by rw [s4];exact ye _,fun k _ hk=>hfar k (fun he=>hk (by rw [he]))⟩⟩
 ·
  rw [← ht]
  apply List.ext_getElem?
  intro q;rw [List.getElem?_take,List.getElem?_take,h5]
  by_cases hq : q<xs.length*d.sz
  ·
   rw [if_pos hq,if_pos hq,seg_get cur.toList seg o (by rw [Array.length_toList];omega) q,if_pos (by rw [← hn] at hq;omega)]
  rw [if_neg hq,if_neg hq]
 exact hr.imp_ (fun x cs hM=>Kd.M_step hM (fun k hk _=>hfar k (fun he=>hk.2 (by rw [he];exact hgo))))
theorem Fw.run_clear {P : Program} (w : World) (t e ty : TypeId) (z : Value) (ht : P.underlying t=some (.slice e)) (hv : ∀ w,(zeroValue e).run P w = .ok z w) (h1 : ∀ i,i<z.cells.size→(z.cells[i]!).oneCell' = true) (b o n c : Nat) (hn : 0<n)
  (hc : ∀ j,j<n*z.cells.size→(w.cell? ⟨b,o+j,none⟩).isSome=true) (hf : ∀ j,j<n*z.cells.size→w.frozen? ⟨b,o+j,none⟩=false) :
  (Builtin.clear_ #[t] ty #[.slice (some ⟨b,o,none⟩) n c]).run P w = .ok (.tuple #[]) (w.setCells b o (Builtin.zeroCells z.cells n).toList):=by
 have hlen : (Builtin.zeroCells z.cells n).toList.length=n*z.cells.size:=by simp [Builtin.zeroCells]
 have hst:=run_storeCells_cells (P:=P) b o (Builtin.zeroCells z.cells n).toList 0 w (by rw [hlen];simpa using hc) (by rw [hlen];simpa using hf) (by
  intro v hv';simp only [Builtin.zeroCells,Array.toList_map,Array.toList_range,List.mem_map,List.mem_range] at hv';obtain ⟨i,hi,rfl⟩:=hv'
  have hz : 0<z.cells.size:=by
   rcases Nat.eq_zero_or_pos z.cells.size with h|h
   ·
    rw [h] at hi;simp at hi
   exact h
  exact h1 _ (Nat.mod_lt _ hz))
 simp only [Nat.add_zero] at hst;obtain ⟨m,rfl⟩ : ∃ m,n=m+1:=⟨n - 1,jH⟩;simp [Builtin.clear_,run_underlying ht,hv,hst]
theorem Fw.zeros_length (z : Array Value) (n : Nat) : (Builtin.zeroCells z n).toList.length=n*z.size:=by simp [Builtin.zeroCells]
theorem Fw.there {α : Type} {d : Kd α} {e base g n cap : Nat} {ok : Nat→Prop} {W : World} {xs : List α} (h : d.R e W base ok (.slice (some ⟨g,0,none⟩) n cap) xs) (j : Nat) (hj : j<cap*d.sz) : (W.cell? ⟨g,j,none⟩).isSome=true∧W.frozen? ⟨g,j,none⟩=false:=by
 obtain ⟨_,inner,⟨_,h⟩,_⟩:=h;rcases h with ⟨hv,_⟩|⟨g',cap',cur,hv,_,hh,_,_,hcs,_⟩
 ·
  cases hv
 injection hv with ha _ hc;injection ha with ha;injection ha with hg;subst hg;subst hc;refine ⟨?_,zA hh j⟩;rw [zz hh,Array.getElem?_eq_getElem (by rw [hcs];exact hj)];rfl
def Fw.f (l0 : List S67) (a1 : Int) (a2 : Int) : Option (List S67):=if 0≤a1 then (if a1<(l0.length : Int) then (if a2=a1+1 then (if l0.length≤4611686018427387904 then (some (l0.eraseIdx a1.toNat)) else none) else none) else none) else none
theorem Fw.S_behind {α : Type} {d : Kd α} {e base g n cap : Nat} {ok : Nat→Prop} {W : World} {xs : List α}
  (h : Kd.S d e W base ok (.slice (some ⟨g,0,none⟩) n cap) xs) (o : Nat) (seg : List Value) (hno : n*d.sz≤o) (hs : o+seg.length≤cap*d.sz) :
  Kd.S d e (W.setCells g o seg) base ok (.slice (some ⟨g,0,none⟩) n cap) xs∧W.grownBy (W.setCells g o seg) (some g):=by
 obtain ⟨f,h⟩:=h;obtain ⟨h1,h2⟩:=Fw.R_behind h o seg hno hs;exact ⟨⟨f,h1⟩,h2⟩
set_option maxHeartbeats 4000000 in
set_option maxRecDepth 100000 in
theorem Fw.calls (P0_ : Nat→Prop) (u9000_ : Value) (l0 : List S67) (a1 : Int) (a2 : Int) (r : List S67) (w0 w : World) (hB : Below w0.heap.size w0 w) (ho0 : Kd.S k67 67 w w0.heap.size P0_ u9000_ l0) (h : Fw.f l0 a1 a2=some r) :
  Calls Try.prog 64 #[u9000_,.int .i64 a1,.int .i64 a2] w fun e w' => ∃ v0_ : Value,e = .returned (v0_)∧Kd.S k67 67 w' w0.heap.size (fun k_=>(P0_ k_∨w.heap.size≤k_)) v0_ r∧Below w0.heap.size w0 w' ∧ Kept w w' (fun k_=>P0_ k_):=by
 unfold Fw.f at h
 by_cases h0 : 0≤a1
 case neg=>rw [if_neg h0] at h;cases h
 rw [if_pos h0] at h
 by_cases h1 : a1<(l0.length : Int)
 case neg=>rw [if_neg h1] at h;cases h
 rw [if_pos h1] at h
 by_cases h2 : a2=a1+1
 case neg=>rw [if_neg h2] at h;cases h
 rw [if_pos h2] at h
 by_cases h3 : l0.length≤4611686018427387904
 case neg=>rw [if_neg h3] at h;cases h
 rw [if_pos h3] at h;obtain rfl:=zU h;clear h;obtain ⟨i,rfl⟩ : ∃ i : Nat,a1=(i : Int):=⟨a1.toNat,jH⟩;subst h2;have hil : i<l0.length:=by omega
 rw [Int.toNat_natCast];obtain ⟨g,c,rfl,gb,gl,cl,HGc⟩:=Kd.S_form ho0 jH;obtain ⟨hn,hnc,hC⟩:=Kd.S_reads' ho0
 have hsz : (Try.prog.info? 67).map (·.size)=some 2:=by have:=info67;cases hq : Try.prog.info? 67 with
  | none=>rw [hq] at this;cases this
  | some i0=>rw [hq] at this;simp at this;simp [this.2.1]
 have hdc : w.drew.heap=w.heap:=rfl;have mixed : Try.prog.follows Departure.mixedOrders=true:=by rfl
 have hi0 : (0 : Int)≤(i : Int):=Int.natCast_nonneg i;have hi1 : (i : Int)≤(l0.length : Int):=by omega
 have hi2 : (i : Int)≤(c : Int):=by omega
 have hi3 : (0 : Int)≤(i : Int)+1:=by omega
 have hi4 : (i : Int)+1≤(l0.length : Int):=by omega
 have hi5 : (l0.length : Int)≤(c : Int):=by omega
 have hi6 : (i : Int)≤(i : Int)+1:=by omega
 have hi7 : (i : Int)+1≤(c : Int):=by omega
 have htn : ((i : Int)+1).toNat=i+1:=by omega
 have hne : ¬ ((i : Int)=(i : Int)+1):=by omega
 have hneb : ((i : Int) == (i : Int)+1)=false:=zY.mpr hne;have hci : ¬ (c=i):=by omega
 by_cases hc1 : c=i+1
 ·
  subst hc1
  go_enter Try.func64,Try.ntmps64
  go_wp2_with fail
  go_region_law_o (refine Kd.S_delete_step k67 (w0:=w0) w0.heap.size (by rfl) (.tmp 22) (.tmp 25) 33 67 (by rfl) Try.underlying33 hsz (g:=g) (n:=l0.length) (c:=i+1) (k:=i) (m:=l0.length - (i+1)) (c2:=0) (A:=some ⟨g,0,none⟩) jAd jAe (by rw [if_pos rfl]) rfl (Kd.S_drew ho0) hil (below_drew hB) hB.size ?_;intro w1 hR1 hb1 hg1)
  have hg2 : w.grownBy w1 (some g):=⟨hg1.os,hg1.tape,hg1.output,hg1.size,hg1.block⟩
  have hcl : ∀ ty,(Builtin.clear_ #[33] ty #[.slice (some ⟨g,(l0.length - 1)*2,none⟩) (l0.length - (l0.length - 1)) (i+1 - (l0.length - 1))]).run Try.prog w1 = .ok (.tuple #[]) (w1.setCells g ((l0.length - 1)*2) (Builtin.zeroCells ((.agg #[(.int .i64 0),(.slice none 0 0)]) : Value).cells (l0.length - (l0.length - 1))).toList) :=
   fun ty=>Fw.run_clear w1 33 67 ty (.agg #[(.int .i64 0),(.slice none 0 0)]) Try.underlying33 (fun w=>by rfl) (fun q hq=>by
    have hq' : q<2:=hq;obtain rfl|rfl : q=0∨q=1:=by omega
    ·
     rfl
    rfl) g ((l0.length - 1)*2) (l0.length - (l0.length - 1)) (i+1 - (l0.length - 1)) jH (fun q hq=>(Fw.there (Kd.S_R hR1) _ (by have hq' : q<(l0.length - (l0.length - 1))*2:=hq;show _<(i+1)*2;omega)).1) (fun q hq=>(Fw.there (Kd.S_R hR1) _ (by have hq' : q<(l0.length - (l0.length - 1))*2:=hq;show _<(i+1)*2;omega)).2)
  have HT:=zh (Fw.S_behind hR1 ((l0.length - 1)*2) (Builtin.zeroCells ((.agg #[(.int .i64 0),(.slice none 0 0)]) : Value).cells (l0.length - (l0.length - 1))).toList (ye _) (by
   rw [Fw.zeros_length];show (l0.length - 1)*2+(l0.length - (l0.length - 1))*2≤(i+1)*2
   omega))
  have hPg : P0_ g:=(Kd.S_R ho0).1 g rfl;have G2:=zh (yz HT.out.2 (yz hg2 (Kept.refl w (fun k_=>P0_ k_)) (fun k hk => .inl jn)) (fun k hk => .inl jn));have G3:=zh (pw_below_grown hb1 (some g) hb1.size HT.out.2 (fun k hk=>by injection hk with hk;subst hk;exact gb));clear hR1 hb1 hg1 hg2 ho0 hB HGc hC;have hcn : ¬ (i+1=l0.length - 1):=by omega
  have hj1 : (0 : Int)≤((l0.length - 1 : Nat) : Int):=Int.natCast_nonneg _;have hj2 : ((l0.length - 1 : Nat) : Int)≤(l0.length : Int):=by omega
  go_wp2_with fail
  go_ret
  exact ⟨_,rfl,Kd.S_mono HT.out.1 (fun _ hk => .inl hk),G3.out,G2.out⟩
 go_enter Try.func64,Try.ntmps64
 go_wp2_with fail
 go_region_law_o (refine Kd.S_delete_step k67 (w0:=w0) w0.heap.size (by rfl) (.tmp 22) (.tmp 25) 33 67 (by rfl) Try.underlying33 hsz (g:=g) (n:=l0.length) (c:=c) (k:=i) (m:=l0.length - (i+1)) (c2:=c - (i+1)) (A:=some ⟨g,(i+1)*2,none⟩) jAd jAe jBg rfl (Kd.S_drew ho0) hil (below_drew hB) hB.size ?_;intro w1 hR1 hb1 hg1)
 have hg2 : w.grownBy w1 (some g):=⟨hg1.os,hg1.tape,hg1.output,hg1.size,hg1.block⟩
 have hcl : ∀ ty,(Builtin.clear_ #[33] ty #[.slice (some ⟨g,(l0.length - 1)*2,none⟩) (l0.length - (l0.length - 1)) (c - (l0.length - 1))]).run Try.prog w1 = .ok (.tuple #[]) (w1.setCells g ((l0.length - 1)*2) (Builtin.zeroCells ((.agg #[(.int .i64 0),(.slice none 0 0)]) : Value).cells (l0.length - (l0.length - 1))).toList) :=
  fun ty=>Fw.run_clear w1 33 67 ty (.agg #[(.int .i64 0),(.slice none 0 0)]) Try.underlying33 (fun w=>by rfl) (fun q hq=>by
   have hq' : q<2:=hq;obtain rfl|rfl : q=0∨q=1:=by omega
   ·
    rfl
   rfl) g ((l0.length - 1)*2) (l0.length - (l0.length - 1)) (c - (l0.length - 1)) jH (fun q hq=>(Fw.there (Kd.S_R hR1) _ (by have hq' : q<(l0.length - (l0.length - 1))*2:=hq;show _<c*2;omega)).1) (fun q hq=>(Fw.there (Kd.S_R hR1) _ (by have hq' : q<(l0.length - (l0.length - 1))*2:=hq;show _<c*2;omega)).2)
 have HT:=zh (Fw.S_behind hR1 ((l0.length - 1)*2) (Builtin.zeroCells ((.agg #[(.int .i64 0),(.slice none 0 0)]) : Value).cells (l0.length - (l0.length - 1))).toList (ye _) (by
  rw [Fw.zeros_length];show (l0.length - 1)*2+(l0.length - (l0.length - 1))*2≤c*2
  omega))
 have hPg : P0_ g:=(Kd.S_R ho0).1 g rfl;have G2:=zh (yz HT.out.2 (yz hg2 (Kept.refl w (fun k_=>P0_ k_)) (fun k hk => .inl jn)) (fun k hk => .inl jn));have G3:=zh (pw_below_grown hb1 (some g) hb1.size HT.out.2 (fun k hk=>by injection hk with hk;subst hk;exact gb));clear hR1 hb1 hg1 hg2 ho0 hB HGc hC;have hcn : ¬ (c=l0.length - 1):=by omega
 have hj1 : (0 : Int)≤((l0.length - 1 : Nat) : Int):=Int.natCast_nonneg _;have hj2 : ((l0.length - 1 : Nat) : Int)≤(l0.length : Int):=by omega
 go_wp2_with fail
 go_ret
 exact ⟨_,rfl,Kd.S_mono HT.out.1 (fun _ hk => .inl hk),G3.out,G2.out⟩

def F09.f (k : Nat) (L : List S67) (nx : Int) (key : ByteArray) (id : Int) : Option (Bool×List S67):=(F02.f k L nx key id).bind fun t=>(if t.2.2=true then (if 0≤t.1 then (if t.1<(L.length : Int) then (if L.length≤4611686018427387904 then ((Fx.f (rd_T67 L t.1).f1 t.2.1 (wrap64 (t.2.1+1))).bind fun es=>(if es.length=0∧1<L.length then ((Fw.f (L.set t.1.toNat (⟨(rd_T67 L t.1).f0,es⟩ : S67)) t.1 (wrap64 (t.1+1))).bind fun L2=>some (true,L2)) else some (true,L.set t.1.toNat (⟨(rd_T67 L t.1).f0,es⟩ : S67)))) else none) else none) else none) else some (false,L))
theorem F09.mono : ∀ a0 a1 a2 a3 k,LeO (F09.f k a0 a1 a2 a3) (F09.f (k+1) a0 a1 a2 a3):=by
 intro a0 a1 a2 a3 k;unfold F09.f;exact zO (F02.mono _ _ _ _ _) (fun _=>zQ _)
set_option maxHeartbeats 8000000 in
set_option maxRecDepth 100000 in
theorem F09.calls (k : Nat) (gb : Nat) (pv : Value) (L : List S67) (nx : Int) (key : ByteArray) (id : Int) (r : Bool) (L' : List S67) (w0 w : World) (hB : Below w0.heap.size w0 w) (hb : w.heap[gb]? = some (.cells #[pv,.int .i64 nx] 35 (0,0))) (hg : w0.heap.size≤gb) (hS0 : Kd.S k67 67 w w0.heap.size (fun _=>True) pv L) (h : F09.f k L nx key id=some (r,L')) :
  Calls Try.prog 46 #[.pointer (some ⟨gb,0,none⟩),.agg #[.string key,.int .i64 id]] w fun e w' => ∃ pv',e = .returned (.bool r)∧w'.heap[gb]? = some (.cells #[pv',.int .i64 nx] 35 (0,0))∧Kd.S k67 67 w' w0.heap.size (fun _=>True) pv' L' ∧ Below w0.heap.size w0 w':=by
 have hu35:=Try.underlying35;have hu51:=Try.underlying51;have hu67:=Try.underlying67;have hS:=Kd.S_types hS0 hb jC;clear hS0;obtain ⟨A,c,rfl⟩:=Kd.S_slice hS;unfold F09.f at h;obtain ⟨⟨pg,at_,th⟩,hF,h⟩:=zT.mp h;simp only at h;obtain ⟨V,hV⟩ : ∃ V,V=w.alloc (.cells #[.string key,.int .i64 id] 51):=⟨_,rfl⟩;have hbV : Below w.heap.size w V:=by rw [hV];exact za (Below.refl _ _) _
 have hVe : V.heap[w.heap.size]? = some (.cells #[.string key,.int .i64 id] 51 (0,0)):=by rw [hV];exact blk_new w _
 obtain ⟨ge,hge⟩ : ∃ ge,ge=w.heap.size:=⟨_,rfl⟩;rw [← hge] at hVe;have hSV:=Kd.S_below hS hbV;have hbb:=zD hb hbV;have hBV:=zC hB hbV;have mixed : Try.prog.follows Departure.mixedOrders=true:=by rfl
 have late : Try.prog.follows Departure.lateStores=true:=by rfl
 have k0 : V.cell? ⟨gb,0,none⟩=some (.slice A L.length c):=(zz hbb 0).trans rfl;have k1 : V.cell? ⟨gb,1,none⟩=some (.int .i64 nx):=(zz hbb 1).trans rfl;have k2 : V.cell? ⟨ge,0,none⟩=some (.string key):=(zz hVe 0).trans rfl;have k3 : V.cell? ⟨ge,1,none⟩=some (.int .i64 id):=(zz hVe 1).trans rfl;have hlb:=yi hbb;have hle:=yi hVe
 have hcell : ∀ W1,Below V.heap.size V W1→(W1.cell? ⟨gb,0,none⟩=some (.slice A L.length c)∧W1.cell? ⟨gb,1,none⟩=some (.int .i64 nx)∧W1.cell? ⟨ge,0,none⟩=some (.string key)∧W1.cell? ⟨ge,1,none⟩=some (.int .i64 id)) :=
  fun W1 hb=>⟨(hb.cell hlb).trans k0,(hb.cell hlb).trans k1,(hb.cell hle).trans k2,(hb.cell hle).trans k3⟩
 have hCV:=fun W1 (hb : Below V.heap.size V W1)=>Kd.C_below (Kd.S_reads' hSV).2.2 hb;have hLc:=(Kd.S_reads' hSV).2.1
 go_enter Try.func46,Try.ntmps46
 go_wp2_with fail
 rw [← hV];simp only [← hge];clear hV hge
 go_region_held3 (fun w' => w'.cell? ⟨gb,0,none⟩=some (.slice A L.length c)∧w'.cell? ⟨gb,1,none⟩=some (.int .i64 nx)∧w'.cell? ⟨ge,0,none⟩=some (.string key)∧w'.cell? ⟨ge,1,none⟩=some (.int .i64 id)) (exact hcell _ jBh) (first|(go_at_call 62;refine (F02.calls k A c L nx key id pg at_ th _ (hCV _ jBh) hLc hF).mono ?_;rintro e w1 ⟨rfl,hb0⟩;have hb1 : Below V.heap.size V w1:=zC (by repeat (first|exact Below.refl _ _|apply za|apply zc|apply zb)) hb0))
 have hB1:=zh (zC hBV hb1);have hS1:=zh (Kd.S_below hSV hb1);have hbb1:=zh (zD hbb hb1);clear hbV hVe hSV hbb hBV k0 k1 k2 k3 hlb hle hcell hCV hb0 hb1 hF hS hB hb
 cases th with
 | false =>
  rw [if_neg jC] at h;simp only [Option.some.injEq,Prod.mk.injEq] at h;obtain ⟨rfl,rfl⟩:=h
  go_wp2_with fail
  go_ret
  exact ⟨_,rfl,hbb1.out,Kd.S_mono hS1.out (fun _ _=>trivial),hB1.out⟩
 | true =>
  rw [if_pos rfl] at h
  by_cases hp0 : 0≤pg
  case neg=>rw [if_neg hp0] at h;cases h
  rw [if_pos hp0] at h
  by_cases hp1 : pg<(L.length : Int)
  case neg=>rw [if_neg hp1] at h;cases h
  rw [if_pos hp1] at h
  by_cases hLm : L.length≤4611686018427387904
  case neg=>rw [if_neg hLm] at h;cases h
  rw [if_pos hLm] at h;obtain ⟨es,hE,h⟩:=zT.mp h;obtain ⟨g,co,eo,gb2,gl,cl,HGc⟩:=Kd.S_form hS1.out jH;injection eo with ea _ ec;subst ea;subst ec;obtain ⟨oki,ce,hcl,hM,hcc,hfr,hoki,hH⟩:=Kd.S_elem hS1.out z67 pg hp0 hp1;have er : L.getD pg.toNat z67=rd_T67 L pg:=rfl;rw [er] at hM;obtain ⟨ve,rfl,hRe⟩:=k67_openM hM;obtain ⟨Ae,ke,rfl⟩:=yk hRe
  have hgb : gb≠g:=fun e9=>by
   have h9:=hbb1.out;rw [e9] at h9;rw [h9] at HGc;injection HGc with HGc;injection HGc with _ HGc;exact absurd HGc jC
  have q0 : w1.cell? ⟨gb,0,none⟩=some (.slice (some ⟨g,0,none⟩) L.length c):=(zz hbb1.out 0).trans rfl;have q1 : w1.cell? ⟨gb,1,none⟩=some (.int .i64 nx):=(zz hbb1.out 1).trans rfl;have q2 : w1.cell? ⟨g,pg.toNat*2+1,none⟩=some (.slice Ae (rd_T67 L pg).f1.length ke):=hcc 1 _ rfl;have hlg : gb<w1.heap.size:=yi hbb1.out
  have hcell : ∀ W1,Kept w1 W1 oki→(W1.cell? ⟨gb,0,none⟩=some (.slice (some ⟨g,0,none⟩) L.length c)∧W1.cell? ⟨gb,1,none⟩=some (.int .i64 nx)∧W1.cell? ⟨g,pg.toNat*2+1,none⟩=some (.slice Ae (rd_T67 L pg).f1.length ke)) :=
   fun W1 hk=>by
    have e1 : W1.heap[gb]? = w1.heap[gb]?:=hk.2 gb hlg (fun h9=>(hoki gb h9).1.2 rfl);have e2 : W1.heap[g]? = w1.heap[g]?:=hk.2 g gl (fun h9=>(hoki g h9).2 rfl);exact ⟨(World.cell?_of_block e1).trans q0,(World.cell?_of_block e1).trans q1,(World.cell?_of_block e2).trans q2⟩
  obtain ⟨ha0,ha1,hw⟩ : 0≤at_∧at_<((rd_T67 L pg).f1.length : Int)∧wrap64 (at_+1)=at_+1:=by
   have h9:=hE;unfold Fx.f at h9
   by_cases c1 : 0≤at_
   case neg=>rw [if_neg c1] at h9;cases h9
   rw [if_pos c1] at h9
   by_cases c2 : at_<((rd_T67 L pg).f1.length : Int)
   case neg=>rw [if_neg c2] at h9;cases h9
   rw [if_pos c2] at h9
   by_cases c3 : wrap64 (at_+1)=at_+1
   case neg=>rw [if_neg c3] at h9;cases h9
   exact ⟨c1,c2,c3⟩
  have hwi : IntKind.i64.wrap (at_+1)=at_+1:=(zG _).trans hw;rw [hw] at hE;have hgo : ¬ oki g:=fun h9=>(hoki g h9).2 rfl;have hpi0 : (0≤pg)=True:=eq_true hp0;have hpi1 : (pg<(L.length : Int))=True:=eq_true hp1;have HH:=zh (Kd.H_widen hH);have HRe:=zh hRe;have HOK:=zh hoki;have HF:=zh hfr;clear hM hcl hcc hoki hH hRe hfr er q0 q1 q2
  go_wp2_with fail
  refine start_ (n:=20) (S:=fun w' => w'.cell? ⟨gb,0,none⟩=some (.slice (some ⟨g,0,none⟩) L.length c)∧w'.cell? ⟨gb,1,none⟩=some (.int .i64 nx)∧w'.cell? ⟨g,pg.toNat*2+1,none⟩=some (.slice Ae (rd_T67 L pg).f1.length ke)) (ds:=[19]) (bm_ 0 20) jA rfl rfl ⟨(hcell _ (zq (Kept.refl w1 oki))).1,(hcell _ (zq (Kept.refl w1 oki))).2.1,(hcell _ (zq (Kept.refl w1 oki))).2.2⟩ (fun hHeld=>?_);refine pure_ (i:=0) (N:=some 19) (v:=?_) (a':=?_) (bm_ 1 20) rfl rfl jA (fun _ _ _ h=>h) (Or.inl ⟨by rfl,?_⟩) ?_ ?_;rotate_left;exact jb;rotate_left;exact jc
  refine pure_ (i:=1) (N:=some 20) (v:=?_) (a':=?_) (bm_ 2 20) rfl rfl jA (fun _ _ _ h=>h) (Or.inl ⟨by rfl,?_⟩) ?_ ?_;rotate_left;exact jb;rotate_left;exact jc
  refine pure_ (i:=2) (N:=some 21) (v:=?_) (a':=?_) (bm_ 3 20) rfl rfl jA (fun _ _ _ h=>h) (Or.inl ⟨by rfl,?_⟩) ?_ ?_;rotate_left;exact jb;rotate_left;exact jc
  refine pure_ (i:=4) (N:=some 23) (v:=?_) (a':=?_) #[true,true,true,false,true,false,false,false,false,false,false,false,false,false,false,false,false,false,false,false] rfl rfl jA (fun _ _ _ h=>h) (Or.inl ⟨by rfl,?_⟩) ?_ ?_;rotate_left;exact jb;rotate_left;exact jc
  refine pure_ (i:=5) (N:=some 24) (v:=?_) (a':=?_) #[true,true,true,false,true,true,false,false,false,false,false,false,false,false,false,false,false,false,false,false] rfl rfl jA (fun _ _ _ h=>h) (Or.inl ⟨by rfl,?_⟩) ?_ ?_;rotate_left;exact jb;rotate_left;exact jc
  refine pure_ (i:=6) (N:=some 25) (v:=?_) (a':=?_) #[true,true,true,false,true,true,true,false,false,false,false,false,false,false,false,false,false,false,false,false] rfl rfl jA (fun _ _ _ h=>h) (Or.inl ⟨by rfl,?_⟩) ?_ ?_;rotate_left;exact jb;rotate_left;exact jc
  refine pure_ (i:=7) (N:=some 26) (v:=?_) (a':=?_) #[true,true,true,false,true,true,true,true,false,false,false,false,false,false,false,false,false,false,false,false] rfl rfl jA (fun _ _ _ h=>h) (Or.inl ⟨by rfl,?_⟩) ?_ ?_;rotate_left;exact jb;rotate_left;exact jc
  refine pure_ (i:=9) (N:=some 28) (v:=?_) (a':=?_) #[true,true,true,false,true,true,true,true,false,true,false,false,false,false,false,false,false,false,false,false] rfl rfl jA (fun _ _ _ h=>h) (Or.inl ⟨by rfl,?_⟩) ?_ ?_;rotate_left;exact jb;rotate_left;exact jc
  refine pure_ (i:=13) (N:=some 32) (v:=?_) (a':=?_) #[true,true,true,false,true,true,true,true,false,true,false,false,false,true,false,false,false,false,false,false] rfl rfl jA (fun _ _ _ h=>h) (Or.inl ⟨by rfl,?_⟩) ?_ ?_;rotate_left;exact jb;rotate_left;exact jc
  refine pure_ (i:=14) (N:=some 33) (v:=?_) (a':=?_) #[true,true,true,false,true,true,true,true,false,true,false,false,false,true,true,false,false,false,false,false] rfl rfl jA (fun _ _ _ h=>h) (Or.inl ⟨by rfl,?_⟩) ?_ ?_;rotate_left;exact jb;rotate_left;exact jc
  refine pure_ (i:=15) (N:=some 34) (v:=?_) (a':=?_) #[true,true,true,false,true,true,true,true,false,true,false,false,false,true,true,true,false,false,false,false] rfl rfl jA (fun _ _ _ h=>h) (Or.inl ⟨by rfl,?_⟩) ?_ ?_;rotate_left;exact jb;rotate_left;exact jc
  refine take_ (i:=3) (N:=some 22) (v:=?_) (a':=?_) #[true,true,true,true,true,true,true,true,false,true,false,false,false,true,true,true,false,false,false,false] rfl rfl jA (fun _ _ _ h=>h) (Or.inl ⟨by rfl,?_⟩) hHeld ?_ ?_;rotate_left
  ·
   rintro w' ⟨s0,s1,s2⟩
   go_simp
   with_reducible rfl
  rotate_left
  exact jc
  refine take_ (i:=8) (N:=some 27) (v:=?_) (a':=?_) #[true,true,true,true,true,true,true,true,true,true,false,false,false,true,true,true,false,false,false,false] rfl rfl jA (fun _ _ _ h=>h) (Or.inl ⟨by rfl,?_⟩) hHeld ?_ ?_;rotate_left
  ·
   rintro w' ⟨s0,s1,s2⟩
   go_simp
   with_reducible rfl
  rotate_left
  exact jc
  refine pure_ (i:=10) (N:=some 29) (v:=?_) (a':=?_) #[true,true,true,true,true,true,true,true,true,true,true,false,false,true,true,true,false,false,false,false] rfl rfl jA (fun _ _ _ h=>h) (Or.inl ⟨by rfl,?_⟩) ?_ ?_;rotate_left;exact jb;rotate_left;exact jc
  refine pure_ (i:=11) (N:=some 30) (v:=?_) (a':=?_) #[true,true,true,true,true,true,true,true,true,true,true,true,false,true,true,true,false,false,false,false] rfl rfl jA (fun _ _ _ h=>h) (Or.inl ⟨by rfl,?_⟩) ?_ ?_;rotate_left;exact jb;rotate_left;exact jc
  refine take_ (i:=12) (N:=some 31) (v:=?_) (a':=?_) (bm_ 16 20) rfl rfl jA (fun _ _ _ h=>h) (Or.inl ⟨by rfl,?_⟩) hHeld ?_ ?_;rotate_left
  ·
   rintro w' ⟨s0,s1,s2⟩
   go_simp
   with_reducible rfl
  rotate_left
  exact jc
  refine one_ (i:=16) (N:=some 35) (bm_ 17 20) rfl rfl jA jC (fun K hK=>?_);refine goes_ Try.func63 jA rfl #[.slice Ae (rd_T67 L pg).f1.length ke,.int .i64 at_,.int .i64 (at_+1)] (by rfl) rfl rfl jL ?_
  with_reducible refine (Fx.calls oki _ (rd_T67 L pg).f1 at_ (at_+1) es w0 _ (zc hB1.out) (zo HRe.out) hE).mono ?_
  rintro e w2 ⟨v1,rfl,hR2,hB2,hK0⟩;refine ⟨_,rfl,?_⟩;obtain ⟨A1,k1,rfl⟩:=yk hR2;have hK2 : Kept w1 w2 oki:=hK0;have kc:=(hcell w2 hK2).2.2;have kf : w2.frozen? ⟨g,pg.toNat*2+1,none⟩=false:=(World.frozen?_of_block (hK2.2 g gl hgo)).trans (HF.out 1);refine hK.out _ _ ⟨(hcell w2 hK2).1,(hcell w2 hK2).2.1,(hcell w2 hK2).2.2⟩ (fun hHeld=>?_);clear hK K;refine norm_ (a':=?_) ?_ ?_;rotate_left
  ·
   show Act.put _ (some 35) _=_
   simp only [Act.put,zi,zj,zk,zG,zH]
   rfl
  refine pure_ (i:=17) (N:=some 36) (v:=?_) (a':=?_) (bm_ 18 20) rfl rfl jA (fun _ _ _ h=>h) (Or.inl ⟨by rfl,?_⟩) ?_ ?_;rotate_left;exact jb;rotate_left;exact jc
  refine pure_ (i:=18) (N:=some 37) (v:=?_) (a':=?_) (bm_ 19 20) rfl rfl jA (fun _ _ _ h=>h) (Or.inl ⟨by rfl,?_⟩) ?_ ?_;rotate_left;exact jb;rotate_left;exact jc
  refine last_ (i:=19) (N:=none) (bm_ 20 20) rfl rfl jA jC (fun K hK=>?_);refine skip_ (w1:=?_) (by rfl) rfl ?_ ?_;rotate_left
  ·
   go_simp
   rfl
  refine hK.out _ _ ?_;clear hK K;refine done_ jA ?_
  obtain ⟨hH2,hG2⟩ : Kd.H k67 67 (w2.setCell ⟨g,pg.toNat*2+1,none⟩ (.slice A1 es.length k1)) w0.heap.size (fun k=>True∧k≠gb) (.slice (some ⟨g,0,none⟩) L.length c) L pg (fun k=>oki k∨(True∧k≠gb)∧w1.heap.size≤k) [.int .i64 (rd_T67 L pg).f0,.slice A1 es.length k1]∧w2.grownBy (w2.setCell ⟨g,pg.toNat*2+1,none⟩ (.slice A1 es.length k1)) (some g) :=
   Kd.H_seg (Kd.H_kept HH.out hK2 (fun k _ hn hk=>hn (.inl hk))) hp0 hp1 (seg:=[.slice A1 es.length k1]) (j:=1) (show 1+1≤2 from by decide) (by simp [Value.oneCell'])
  have hR3:=Kd.R_grown hR2 hG2 (fun k hk he=>by
   injection he with he;rcases hk with hk|hk
   ·
    exact (HOK.out k hk).2 he
   rw [he] at hk;exact absurd gl (Nat.not_lt.2 hk))
  have HS3:=zh (Kd.H_back hH2 (x':=(⟨(rd_T67 L pg).f0,es⟩ : S67)) (k67_mkM _ _ _ ⟨(rd_T67 L pg).f0,es⟩ hR3) (fun k hk=>by
   rcases hk with hk|hk
   ·
    exact .inl hk
   exact .inr ⟨⟨trivial,fun e9=>by rw [e9] at hk;exact absurd hlg (Nat.not_lt.2 hk)⟩,hk⟩))
  have HB3:=zh (pw_below_grown hB2 (some g) hB2.size hG2 (fun k hk=>by injection hk with hk;subst hk;exact gb2));have hbb2 : w2.heap[gb]? = some (.cells #[.slice (some ⟨g,0,none⟩) L.length c,.int .i64 nx] 35 (0,0)):=(hK2.2 gb hlg (fun h9=>(HOK.out gb h9).1.2 rfl)).trans hbb1.out;have hbb3 : (w2.setCell ⟨g,pg.toNat*2+1,none⟩ (.slice A1 es.length k1)).heap[gb]? = some (.cells #[.slice (some ⟨g,0,none⟩) L.length c,.int .i64 nx] 35 (0,0)):=(Below.heap_setCell w2 ⟨g,_,none⟩ _ gb hgb).trans hbb2
  have q3 : (w2.setCell ⟨g,pg.toNat*2+1,none⟩ (.slice A1 es.length k1)).cell? ⟨g,pg.toNat*2+1,none⟩=some (.slice A1 es.length k1):=by
   have e2 : w2.heap[g]? = some (.cells cl 67 (0,0)):=(hK2.2 g gl hgo).trans HGc;have h3:=kc;rw [zz e2] at h3;rw [zz (blk_set e2 _ _)];have h4 : pg.toNat*2+1<cl.size:=(Array.getElem?_eq_some_iff.1 h3).1;simp [h4]
  generalize hW3 : w2.setCell ⟨g,pg.toNat*2+1,none⟩ (.slice A1 es.length k1)=W3 at *;have HZ3:=zh hbb3;have hlg3 : gb<W3.heap.size:=yi hbb3;have q0:=(zz hbb3 0).trans (show _=some (.slice (some ⟨g,0,none⟩) L.length c) from rfl);have q1:=(zz hbb3 1).trans (show _=some (.int .i64 nx) from rfl);have f0:=zA hbb3 0;have f1:=zA hbb3 1;clear hH2 hG2 hR3 hR2 hB2 hK0 hK2 kc kf hbb2 hbb3 hW3 hcell HGc HH HRe HOK HF hgo gl hlg hgb hLm
  by_cases hn : es.length=0∧1<L.length
  ·
   rw [if_pos hn] at h
   obtain ⟨L2,hD,h⟩:=zT.mp h;simp only [Option.some.injEq,Prod.mk.injEq] at h;obtain ⟨rfl,rfl⟩:=h;obtain ⟨hn0,hn1⟩:=hn
   obtain ⟨hwp,_⟩ : wrap64 (pg+1)=pg+1∧True:=by
    have h9:=hD;unfold Fw.f at h9;rw [if_pos hp0] at h9
    by_cases c2 : pg<((L.set pg.toNat (⟨(rd_T67 L pg).f0,es⟩ : S67)).length : Int)
    case neg=>rw [if_neg c2] at h9;cases h9
    rw [if_pos c2] at h9
    by_cases c3 : wrap64 (pg+1)=pg+1
    case neg=>rw [if_neg c3] at h9;cases h9
    exact ⟨c3,trivial⟩
   have hwpi : IntKind.i64.wrap (pg+1)=pg+1:=(zG _).trans hwp;rw [hwp] at hD;have hes : ((es.length : Int) == 0)=true:=ya.mpr jH;have hes2 : (es.length == 0)=true:=ya.mpr hn0;have hl1 : decide ((1 : Int)<(L.length : Int))=true:=decide_eq_true jH;have hl2 : decide (1<L.length)=true:=decide_eq_true hn1;have hSL : Kd.S k67 67 W3 w0.heap.size (fun k=>True∧k≠gb) (.slice (some ⟨g,0,none⟩) L.length c) (L.set pg.toNat (⟨(rd_T67 L pg).f0,es⟩ : S67)):=HS3.out;clear hn0 hn1
   go_wp2_with fail
   go_at_call 64
   refine (Fw.calls (fun k=>True∧k≠gb) _ (L.set pg.toNat (⟨(rd_T67 L pg).f0,es⟩ : S67)) pg (pg+1) L2 w0 _ HB3.out hSL hD).mono ?_;rintro e w4 ⟨v4,rfl,hS4,hB4,hK4⟩;have hbb4:=(hK4.2 gb hlg3 (fun h9=>h9.2 rfl)).trans HZ3.out
   have HS4:=zh (Kd.S_far (p:=⟨gb,0,none⟩) hS4 (fun k hk=>by
    rcases hk with hk|hk
    ·
     exact hk.2
    intro e9;rw [e9] at hk;exact absurd hlg3 (Nat.not_lt.2 hk)) v4)
   have HB4:=zh (show Below w0.heap.size w0 (w4.setCell ⟨gb,0,none⟩ v4) from zd hB4 hg);have HZ4:=zh (blk_set hbb4 0 v4);obtain ⟨A4,c4,rfl⟩:=Kd.S_slice hS4;have q4:=(zz hbb4 0).trans (show _=some (.slice (some ⟨g,0,none⟩) L.length c) from rfl);have f4:=zA hbb4 0;clear q0 q1 f0 f1 q3 hS4 hB4 hK4 hbb4
   go_wp2_with fail
   go_ret
   exact ⟨_,rfl,HZ4.out,Kd.S_mono HS4.out (fun _ _=>trivial),HB4.out⟩
  rw [if_neg hn] at h;simp only [Option.some.injEq,Prod.mk.injEq] at h;obtain ⟨rfl,rfl⟩:=h;have hSL : Kd.S k67 67 W3 w0.heap.size (fun k=>True∧k≠gb) (.slice (some ⟨g,0,none⟩) L.length c) (L.set pg.toNat (⟨(rd_T67 L pg).f0,es⟩ : S67)):=HS3.out
  by_cases hn0 : es.length=0
  ·
   have hl1 : decide ((1 : Int)<(L.length : Int))=false:=decide_eq_false jH
   have hl2 : decide (1<L.length)=false:=decide_eq_false jH;have hes : ((es.length : Int) == 0)=true:=ya.mpr jH;have hes2 : (es.length == 0)=true:=ya.mpr hn0;clear hn0 hn
   go_wp2_with fail
   go_ret
   exact ⟨_,rfl,HZ3.out,Kd.S_mono hSL (fun _ _=>trivial),HB3.out⟩
  have hes : ((es.length : Int) == 0)=false:=zY.mpr jH;have hes2 : (es.length == 0)=false:=zY.mpr hn0;clear hn0 hn
  go_wp2_with fail
  go_ret
  exact ⟨_,rfl,HZ3.out,Kd.S_mono hSL (fun _ _=>trivial),HB3.out⟩

def F04.f (k : Nat) (l0_0 : List (S67)) (a0_1 : Int) (a1_0 : ByteArray) (a1_1 : Int) : Option ((List (S67))×Int×Int):=(F1.f k l0_0 a0_1).bind fun t=>(if t=true then ((F0d.f a1_0 a1_1).bind fun u=>(if u=true then ((Fe.f k l0_0 a0_1).bind fun c=>((F09.f k c.1 c.2 a1_0 a1_1).bind fun d=>(if d.1=true then ((Fe.f k d.2 c.2).bind fun z=>some (z.1,z.2,0)) else (some (d.2,c.2,5))))) else (some (([] : List S67),0,1)))) else (some (([] : List S67),0,1)))
theorem F04.mono : ∀ a0 a1 a2 a3 k,LeO (F04.f k a0 a1 a2 a3) (F04.f (k+1) a0 a1 a2 a3):=by
 intro a0 a1 a2 a3 k;unfold F04.f;refine zO (F1.mono _ _ _) (fun _=>zP (zO (zQ _) (fun _=>zP (zO (Fe.mono _ _ _) (fun _=>zO (F09.mono _ _ _ _ _) (fun _=>zP (zO (Fe.mono _ _ _) (fun _=>zQ _)) (zQ _)))) (zQ _))) (zQ _))
theorem F04.three (w : World) (o0 o1 o2 : Obj) : (((w.alloc o0).alloc o1).alloc o2).heap[w.heap.size]? = some o0∧(((w.alloc o0).alloc o1).alloc o2).heap[w.heap.size+1]? = some o1∧(((w.alloc o0).alloc o1).alloc o2).heap[w.heap.size+1+1]? = some o2∧Below w.heap.size w (((w.alloc o0).alloc o1).alloc o2):=by
 refine ⟨zg (zg (blk_new w _) _) _,zg ?_ _,?_,za (za (za (Below.refl _ _) _) _) _⟩
 ·
  have:=blk_new (w.alloc o0) o1
  simpa using this
 have:=blk_new ((w.alloc o0).alloc o1) o2
 simpa using this
set_option maxHeartbeats 8000000 in
set_option maxRecDepth 100000 in
theorem F04.calls (k : Nat) (A0_0 : Option Addr) (c0_0 : Nat) (l0_0 : List (S67)) (a0_1 : Int) (a1_0 : ByteArray) (a1_1 : Int) (r1 : List (S67)) (r2 : Int) (r3 : Int) (w : World) (hr0_0 : Kd.C k67 w A0_0 l0_0.length l0_0) (hc0_0 : l0_0.length≤c0_0) (h : F04.f k l0_0 a0_1 a1_0 a1_1=some (r1,r2,r3)) :
  Calls Try.prog 23 #[.agg #[.slice A0_0 l0_0.length c0_0,.int .i64 a0_1],.agg #[.string a1_0,.int .i64 a1_1]] w fun e w' => ∃ v0_ : Value,e = .returned (.tuple #[.agg #[v0_,.int .i64 r2],.int .i64 r3])∧Kd.S k67 67 w' w.heap.size (fun _=>True) v0_ r1∧Below w.heap.size w w':=by
 have hu35:=Try.underlying35;have hu51:=Try.underlying51;unfold F04.f at h;obtain ⟨t,hT,h⟩:=zT.mp h;obtain ⟨V,hV⟩ : ∃ V,V=((w.alloc (.cells #[.slice A0_0 l0_0.length c0_0,.int .i64 a0_1] 35)).alloc (.cells #[.string a1_0,.int .i64 a1_1] 51)).alloc (.cells #[.slice none 0 0,.int .i64 0] 35):=⟨_,rfl⟩;obtain ⟨h0,h1,h2,hBV⟩:=F04.three w (.cells #[.slice A0_0 l0_0.length c0_0,.int .i64 a0_1] 35) (.cells #[.string a1_0,.int .i64 a1_1] 51) (.cells #[.slice none 0 0,.int .i64 0] 35);rw [← hV] at h0 h1 h2 hBV;obtain ⟨g0,hg0⟩ : ∃ g,g=w.heap.size:=⟨_,rfl⟩;rw [← hg0] at h0 h1 h2;obtain ⟨g1,hg1⟩ : ∃ g,g=g0+1:=⟨_,rfl⟩;rw [← hg1] at h1 h2;obtain ⟨g2,hg2⟩ : ∃ g,g=g1+1:=⟨_,rfl⟩;rw [← hg2] at h2;have hbase : w.heap.size≤g2:=by rw [hg2,hg1,hg0,Nat.add_assoc];exact Nat.le_add_right _ _
 have H0 : Aside0 (V.heap[g0]? = some (.cells #[.slice A0_0 l0_0.length c0_0,.int .i64 a0_1] 35 (0,0))):=⟨h0⟩;have H1 : Aside0 (V.heap[g1]? = some (.cells #[.string a1_0,.int .i64 a1_1] 51 (0,0))):=⟨h1⟩;have H2 : Aside0 (V.heap[g2]? = some (.cells #[.slice none 0 0,.int .i64 0] 35 (0,0))):=⟨h2⟩;have HB:=zh hBV;have HC:=zh (Kd.C_below hr0_0 hBV);clear h0 h1 h2 hBV hr0_0
 have hcells : ∀ W1,Below V.heap.size V W1→(W1.cell? ⟨g0,0,none⟩=some (.slice A0_0 l0_0.length c0_0)∧W1.cell? ⟨g0,1,none⟩=some (.int .i64 a0_1)∧W1.cell? ⟨g1,0,none⟩=some (.string a1_0)∧W1.cell? ⟨g1,1,none⟩=some (.int .i64 a1_1)) :=
  fun W1 hb=>⟨(zz (zD H0.out hb) 0).trans rfl,(zz (zD H0.out hb) 1).trans rfl,(zz (zD H1.out hb) 0).trans rfl,(zz (zD H1.out hb) 1).trans rfl⟩
 obtain ⟨k0,k1,-,-⟩:=hcells V (Below.refl _ _);have HCE:=zh hcells;clear hcells
 -- an early answer
 have early : ∀ W1,Below V.heap.size V W1→W1.heap[g2]? = some (.cells #[.slice none 0 0,.int .i64 0] 35 (0,0))∧Below w.heap.size w W1:=fun W1 hb=>⟨zD H2.out hb,zC HB.out hb⟩;have HEA:=zh early;clear early
 go_enter Try.func23,Try.ntmps23
 go_wp2_with fail
 rw [← hV];simp only [← hg0];simp only [← hg1];simp only [← hg2];clear hV hg0 hg1 hg2
 go_at_call 31
 refine (F1.calls k A0_0 c0_0 l0_0 a0_1 t V HC.out hc0_0 hT).mono ?_;rintro e w1 ⟨rfl,hb1⟩;have HB1:=zh hb1;clear hb1 hT k0 k1
 cases t with
 | false =>
  rw [if_neg jC] at h;simp only [Option.some.injEq,Prod.mk.injEq] at h;obtain ⟨rfl,rfl,rfl⟩:=h;obtain ⟨hz,hbz⟩:=HEA.out w1 HB1.out;have q0:=zz hz 0;have q1:=zz hz 1;have f0:=zA hz 0;have f1:=zA hz 1
  go_wp2_with fail
  refine bodyPost_ret (results_ct rfl _ _ g2 35 #[.slice none 0 0,.int .i64 0] (0,0) _ rfl (blk_set (blk_set hz 0 (.slice none 0 0)) 1 (.int .i64 0)) hu35 rfl jA) rfl ?_;exact ⟨_,rfl,Kd.S_nil _ _ _ _ _,zd (zd hbz hbase) hbase⟩
 | true =>
  rw [if_pos rfl] at h;obtain ⟨u,hU,h⟩:=zT.mp h;obtain ⟨-,-,k2,k3⟩:=HCE.out w1 HB1.out
  go_wp2_with fail
  go_at_call 44
  refine (F0d.calls a1_0 a1_1 u w1 hU).mono ?_;rintro e w2 ⟨rfl,hb2⟩;have HB2:=zh (zC HB1.out hb2);clear hb2 hU k2 k3 HB1
  cases u with
  | false =>
   rw [if_neg jC] at h;simp only [Option.some.injEq,Prod.mk.injEq] at h;obtain ⟨rfl,rfl,rfl⟩:=h;obtain ⟨hz,hbz⟩:=HEA.out w2 HB2.out;have q0:=zz hz 0;have q1:=zz hz 1;have f0:=zA hz 0;have f1:=zA hz 1
   go_wp2_with fail
   refine bodyPost_ret (results_ct rfl _ _ g2 35 #[.slice none 0 0,.int .i64 0] (0,0) _ rfl (blk_set (blk_set hz 0 (.slice none 0 0)) 1 (.int .i64 0)) hu35 rfl jA) rfl ?_;exact ⟨_,rfl,Kd.S_nil _ _ _ _ _,zd (zd hbz hbase) hbase⟩
  | true =>
   rw [if_pos rfl] at h;obtain ⟨⟨L1,n1⟩,hK,h⟩:=zT.mp h;obtain ⟨⟨d1,L2⟩,hD,h⟩:=zT.mp h;simp only at hD h;obtain ⟨k0,k1,-,-⟩:=HCE.out w2 HB2.out
   go_wp2_with fail
   go_at_call 45
   refine (Fe.calls k A0_0 c0_0 l0_0 a0_1 L1 n1 w2 (Kd.C_below HC.out HB2.out) hc0_0 hK).mono ?_;rintro e w3 ⟨v3,rfl,hS3,hb3⟩;have HB3:=zh hb3;have HS3:=zh hS3;obtain ⟨A3,c3,rfl⟩:=Kd.S_slice hS3;clear hS3 hb3 hK k0 k1;obtain ⟨-,-,k2,k3⟩:=HCE.out (w3.alloc (.cells #[.slice A3 L1.length c3,.int .i64 n1] 35)) (za (zC HB2.out HB3.out) _)
   go_wp2_with fail
   go_at_call 46
   refine (F09.calls k w3.heap.size (.slice A3 L1.length c3) L1 n1 a1_0 a1_1 d1 L2 w2 _ (za HB3.out _) (blk_new w3 _) HB3.out.size (Kd.S_alloc HS3.out _) hD).mono ?_;rintro e w5 ⟨pv,rfl,hb5,hS5,hB5⟩;have hz : w5.heap[g2]? = some (.cells #[.slice none 0 0,.int .i64 0] 35 (0,0)):=zD (HEA.out w2 HB2.out).1 hB5;have hbz : Below w.heap.size w w5:=zC (HEA.out w2 HB2.out).2 hB5;have hle : w.heap.size≤w2.heap.size:=(HEA.out w2 HB2.out).2.size;obtain ⟨A5,c5,rfl⟩:=Kd.S_slice hS5;have HS5:=zh (Kd.S_lower hS5 hle);have HZ:=zh hz;have HBZ:=zh hbz;have p0:=zz hb5 0;have p1:=zz hb5 1;clear hS5 hB5 hD hb5 k2 k3 HS3 HB3 hz hbz
   cases d1 with
   | false =>
    rw [if_neg jC] at h;simp only [Option.some.injEq,Prod.mk.injEq] at h;obtain ⟨rfl,rfl,rfl⟩:=h;have q0:=zz HZ.out 0;have q1:=zz HZ.out 1;have f0:=zA HZ.out 0;have f1:=zA HZ.out 1
    go_wp2_with fail
    refine bodyPost_ret (results_ct rfl _ _ g2 35 #[.slice A5 L2.length c5,.int .i64 n1] (0,0) _ rfl (blk_set (blk_set HZ.out 0 (.slice A5 L2.length c5)) 1 (.int .i64 n1)) hu35 rfl jA) rfl ?_;exact ⟨_,rfl,Kd.S_set (Kd.S_set HS5.out HZ.out jC 0 _) (blk_set HZ.out 0 _) jC 1 _,zd (zd HBZ.out hbase) hbase⟩
   | true =>
    rw [if_pos rfl] at h;obtain ⟨⟨L3,n3⟩,hK2,h⟩:=zT.mp h;simp only [Option.some.injEq,Prod.mk.injEq] at h;obtain ⟨rfl,rfl,rfl⟩:=h
    go_wp2_with fail
    go_at_call 45
    refine (Fe.calls k A5 c5 L2 n1 L3 n3 w5 (Kd.S_reads' HS5.out).2.2 (Kd.S_reads' HS5.out).2.1 hK2).mono ?_;rintro e w6 ⟨v6,rfl,hS6,hb6⟩;have HZ6:=zh (zD HZ.out hb6);have HB6:=zh (zC HBZ.out hb6);have HS6:=zh (Kd.S_lower hS6 HBZ.out.size);obtain ⟨A6,c6,rfl⟩:=Kd.S_slice hS6;clear hS6 hb6 hK2 p0 p1 HS5 HZ HBZ;have q0:=zz HZ6.out 0;have q1:=zz HZ6.out 1;have f0:=zA HZ6.out 0;have f1:=zA HZ6.out 1
    go_wp2_with fail
    refine bodyPost_ret (results_ct rfl _ _ g2 35 #[.slice A6 L3.length c6,.int .i64 n3] (0,0) _ rfl (blk_set (blk_set HZ6.out 0 (.slice A6 L3.length c6)) 1 (.int .i64 n3)) hu35 rfl jA) rfl ?_;exact ⟨_,rfl,Kd.S_set (Kd.S_set HS6.out HZ6.out jC 0 _) (blk_set HZ6.out 0 _) jC 1 _,zd (zd HB6.out hbase) hbase⟩

def F0b.f (k : Nat) (l0_0 : List (S79)) (a0_1 : Int) (a1_0 : ByteArray) (a1_1 : Int) : Option Bool:=(F0e.f k l0_0 a0_1 1048576).bind fun t1=>(if t1<0 then some true else ((Ff.f a1_0 a1_1 t1).bind fun t2=>(if t2<0 then some true else ((F06.f k l0_0 a0_1).bind fun T=>((F5.f a1_0 a1_1).bind fun E=>((Fj.f k T.1 T.2 E.1 E.2).bind fun W=>((F04.f k T.1 T.2 E.1 E.2).bind fun G=>((F05.f k G.1 G.2.1 W.1 W.2.1).bind fun b1=>((F05.f k T.1 T.2 T.1 T.2).bind fun b2=>((Fz.g k T.1 1).bind fun M=>((Fz.g k G.1 1).bind fun M2=>((F0c.f k M2.2 G.2.1 1).bind fun q=>(if b1=true∧b2=true∧(G.2.2=W.2.2) ∧ ¬ M.1<0 ∧ ¬ q<0∧q=M2.1∧T.1.length≤4611686018427387904∧G.1.length≤4611686018427387904 then some true else none)))))))))))))
theorem F0b.two (w : World) (o0 o1 : Obj) : ((w.alloc o0).alloc o1).heap[w.heap.size]? = some o0∧((w.alloc o0).alloc o1).heap[w.heap.size+1]? = some o1∧Below w.heap.size w ((w.alloc o0).alloc o1):=by
 refine ⟨zg (blk_new w _) _,?_,za (za (Below.refl _ _) _) _⟩;have:=blk_new (w.alloc o0) o1
 simpa using this
set_option maxHeartbeats 16000000 in
set_option maxRecDepth 100000 in
theorem F0b.calls (k : Nat) (A0_0 : Option Addr) (c0_0 : Nat) (l0_0 : List (S79)) (a0_1 : Int) (a1_0 : ByteArray) (a1_1 : Int) (r : Bool) (w : World) (hr0_0 : Kd.C k79 w A0_0 l0_0.length l0_0) (hc0_0 : l0_0.length≤c0_0) (h : F0b.f k l0_0 a0_1 a1_0 a1_1=some r) :
  Calls Try.prog 4 #[.agg #[.slice A0_0 l0_0.length c0_0,.int .i64 a0_1],.agg #[.string a1_0,.int .i64 a1_1]] w fun e w' => e = .returned (.bool r)∧Below w.heap.size w w':=by
 have hu35:=Try.underlying35;have hu24:=Try.underlying24;have hu47:=Try.underlying47;have hu51:=Try.underlying51;have mixed : Try.prog.follows Departure.mixedOrders=true:=by rfl
 have late : Try.prog.follows Departure.lateStores=true:=by rfl
 unfold F0b.f at h;obtain ⟨t1,hz1,h⟩:=zT.mp h;obtain ⟨V,hV⟩ : ∃ V,V=(w.alloc (.cells #[.slice A0_0 l0_0.length c0_0,.int .i64 a0_1] 24)).alloc (.cells #[.string a1_0,.int .i64 a1_1] 47):=⟨_,rfl⟩;obtain ⟨h0,h1,hBV⟩:=F0b.two w (.cells #[.slice A0_0 l0_0.length c0_0,.int .i64 a0_1] 24) (.cells #[.string a1_0,.int .i64 a1_1] 47);rw [← hV] at h0 h1 hBV;obtain ⟨g0,hg0⟩ : ∃ g,g=w.heap.size:=⟨_,rfl⟩;rw [← hg0] at h0 h1;obtain ⟨g1,hg1⟩ : ∃ g,g=g0+1:=⟨_,rfl⟩;rw [← hg1] at h1;have HBV:=zh hBV;have H0:=zh h0;have H1:=zh h1;have HCX : Aside0 (∀ W1,Below V.heap.size V W1→Kd.C k79 W1 A0_0 l0_0.length l0_0):=⟨fun W1 hb=>Kd.C_below (Kd.C_below hr0_0 HBV.out) hb⟩
 have HCE : Aside0 (∀ W1,Below V.heap.size V W1→(W1.cell? ⟨g0,0,none⟩=some (.slice A0_0 l0_0.length c0_0)∧W1.cell? ⟨g0,1,none⟩=some (.int .i64 a0_1)∧W1.cell? ⟨g1,0,none⟩=some (.string a1_0)∧W1.cell? ⟨g1,1,none⟩=some (.int .i64 a1_1))) :=
  ⟨fun W1 hb=>⟨(zz (zD H0.out hb) 0).trans rfl,(zz (zD H0.out hb) 1).trans rfl,(zz (zD H1.out hb) 0).trans rfl,(zz (zD H1.out hb) 1).trans rfl⟩⟩
 clear h0 h1 hBV hr0_0;obtain ⟨k0,k1,-,-⟩:=HCE.out V (Below.refl _ _)
 go_enter Try.func4,Try.ntmps4
 go_wp2_with fail
 rw [← hV];simp only [← hg0];simp only [← hg1];clear hV hg0 hg1
 go_at_call 6
 refine (F0e.calls k A0_0 c0_0 l0_0 a0_1 1048576 t1 V (HCX.out V (Below.refl _ _)) hc0_0 hz1).mono ?_;rintro e w1 ⟨rfl,hb1⟩;have HB1:=zh hb1;clear hb1 k0 k1 hz1
 by_cases c1 : t1<0
 ·
  rw [if_pos c1] at h
  obtain rfl:=zU h;have c1b : decide (t1<0)=true:=decide_eq_true c1
  go_wp2_with fail
  go_ret
  exact ⟨rfl,zC HBV.out HB1.out⟩
 rw [if_neg c1] at h;have c1b : decide (t1<0)=false:=decide_eq_false c1;clear c1;obtain ⟨t2,hz2,h⟩:=zT.mp h;obtain ⟨-,-,k2,k3⟩:=HCE.out w1 HB1.out
 go_wp2_with fail
 go_at_call 20
 refine (Ff.calls a1_0 a1_1 t1 t2 w1 hz2).mono ?_;rintro e w2 ⟨rfl,hb2⟩;have HB2:=zh (zC HB1.out hb2);clear hb2 k2 k3 hz2 HB1 c1b
 by_cases c2 : t2<0
 ·
  rw [if_pos c2] at h
  obtain rfl:=zU h;have c2b : decide (t2<0)=true:=decide_eq_true c2
  go_wp2_with fail
  go_ret
  exact ⟨rfl,zC HBV.out HB2.out⟩
 rw [if_neg c2] at h;have c2b : decide (t2<0)=false:=decide_eq_false c2;clear c2;obtain ⟨⟨T1,n1⟩,hT,h⟩:=zT.mp h;obtain ⟨⟨E1,i1⟩,hE,h⟩:=zT.mp h;obtain ⟨⟨Wl,nw,e0⟩,hW,h⟩:=zT.mp h;obtain ⟨⟨Gl,ng,d0⟩,hG,h⟩:=zT.mp h;obtain ⟨b1,hq1,h⟩:=zT.mp h;obtain ⟨b2,hq2,h⟩:=zT.mp h;obtain ⟨⟨m1,M1⟩,hM1,h⟩:=zT.mp h;obtain ⟨⟨m2,M2⟩,hM2,h⟩:=zT.mp h;obtain ⟨q,hq,h⟩:=zT.mp h;simp only at hW hG hq1 hq2 hM1 hM2 hq h
 split at h
 case isFalse=>cases h
 rename_i hall
 obtain rfl:=zU h;clear h;obtain ⟨rfl,rfl,hsame,hm1,hq0,rfl,hlT,hlG⟩:=hall;obtain rfl:=hsame;have hm1b : decide (m1<0)=false:=decide_eq_false (Int.not_lt.2 hm1);have hq0b : decide (q<0)=false:=decide_eq_false (Int.not_lt.2 hq0);clear hm1 hq0
 go_wp2_with fail
 have HC2 : Aside0 (∀ W1,Below w2.heap.size w2 W1→(W1.cell? ⟨g0,0,none⟩=some (.slice A0_0 l0_0.length c0_0)∧W1.cell? ⟨g0,1,none⟩=some (.int .i64 a0_1)∧W1.cell? ⟨g1,0,none⟩=some (.string a1_0)∧W1.cell? ⟨g1,1,none⟩=some (.int .i64 a1_1))):=⟨fun W1 hb=>HCE.out W1 (zC HB2.out hb)⟩;have hbd : Below w2.heap.size w2 w2.drew:=zc (Below.refl _ _);refine start_ (n:=11) (S:=fun w' => w'.cell? ⟨g0,0,none⟩=some (.slice A0_0 l0_0.length c0_0)∧w'.cell? ⟨g0,1,none⟩=some (.int .i64 a0_1)∧w'.cell? ⟨g1,0,none⟩=some (.string a1_0)∧w'.cell? ⟨g1,1,none⟩=some (.int .i64 a1_1)) (ds:=[9]) (bm_ 0 11) jA rfl rfl ⟨(HC2.out _ hbd).1,(HC2.out _ hbd).2.1,(HC2.out _ hbd).2.2.1,(HC2.out _ hbd).2.2.2⟩ (fun hHeld=>?_);generalize w2.drew=wd at hbd hHeld ⊢;refine take_ (i:=0) (N:=some 27) (v:=?_) (a':=?_) (bm_ 1 11) rfl rfl jA (fun _ _ _ h=>h) (Or.inl ⟨by rfl,?_⟩) hHeld ?_ ?_;rotate_left
 ·
  rintro w' ⟨s0,s1,s2,s3⟩
  go_simp
  with_reducible rfl
 rotate_left
 exact jc
 refine take_ (i:=2) (N:=some 29) (v:=?_) (a':=?_) #[true,false,true,false,false,false,false,false,false,false,false] rfl rfl jA (fun _ _ _ h=>h) (Or.inl ⟨by rfl,?_⟩) hHeld ?_ ?_;rotate_left
 ·
  rintro w' ⟨s0,s1,s2,s3⟩
  go_simp
  with_reducible rfl
 rotate_left
 exact jc
 refine join_ (σ:=Nat×(Option Addr×Nat)×(Option Addr×Nat)) 2 (bm_ 9 11) (fun s => [(6,.pointer (some ⟨s.1,0,none⟩)),(28,.agg #[.slice s.2.2.1 T1.length s.2.2.2,.int .i64 n1]),(30,.agg #[.string E1,.int .i64 i1]),(31,.tuple #[.agg #[.slice s.2.1.1 Wl.length s.2.1.2,.int .i64 nw],.int .i64 d0]),(26,.tuple #[.agg #[.slice s.2.1.1 Wl.length s.2.1.2,.int .i64 nw],.int .i64 d0]),(32,.agg #[.slice s.2.1.1 Wl.length s.2.1.2,.int .i64 nw]),(33,.int .i64 d0)]) (fun s w' => w'.heap[s.1]? = some (.cells #[.slice none 0 0,.int .i64 0] 35 (0,0))∧w2.heap.size≤s.1∧Kd.S k67 67 w' w2.heap.size (fun _=>True) (.slice s.2.1.1 Wl.length s.2.1.2) Wl∧Below w2.heap.size w2 w') ?_ ?_;rotate_left
 ·
  intro hCont
  refine two_ (i:=1) (j:=8) (Ni:=some 28) (Nj:=some 6) (bm_ 3 11) #[true,false,true,false,false,false,false,false,true,false,false] rfl rfl rfl rfl jA jC jC (fun K hK=>?_) (fun K hK=>?_)
  ·
   skip
   refine goes_ Try.func9 jA rfl #[.agg #[.slice A0_0 l0_0.length c0_0,.int .i64 a0_1]] (by rfl) rfl rfl jL ?_
   with_reducible refine (F06.calls k A0_0 c0_0 l0_0 a0_1 T1 n1 _ (HCX.out _ (zC HB2.out hbd)) hc0_0 hT).mono ?_
   rintro e w_1 ⟨v_1,rfl,hS_1,hb_1⟩;refine ⟨_,rfl,?_⟩;obtain ⟨At,ct,rfl⟩:=Kd.S_slice hS_1;have hbx1:=zC hbd hb_1;refine hK.out _ _ ⟨(HC2.out _ hbx1).1,(HC2.out _ hbx1).2.1,(HC2.out _ hbx1).2.2.1,(HC2.out _ hbx1).2.2.2⟩ (fun hHeld=>?_);clear hK K;refine norm_ (a':=?_) ?_ ?_;rotate_left
   ·
    show Act.put _ (some 28) _=_
    simp only [Act.put,zi,zj,zk,zG,zH]
    rfl
   refine two_ (i:=3) (j:=8) (Ni:=some 30) (Nj:=some 6) (bm_ 4 11) #[true,true,true,false,false,false,false,false,true,false,false] rfl rfl rfl rfl jA jC jC (fun K hK=>?_) (fun K hK=>?_)
   ·
    skip
    refine goes_ Try.func22 jA rfl #[.agg #[.string a1_0,.int .i64 a1_1]] (by rfl) rfl rfl jL ?_
    with_reducible refine (F5.calls a1_0 a1_1 E1 i1 _ hE).mono ?_
    rintro e w_3 ⟨rfl,hb_3⟩;refine ⟨_,rfl,?_⟩;have hbx3:=zC hbx1 hb_3;refine hK.out _ _ ⟨(HC2.out _ hbx3).1,(HC2.out _ hbx3).2.1,(HC2.out _ hbx3).2.2.1,(HC2.out _ hbx3).2.2.2⟩ (fun hHeld=>?_);clear hK K;refine norm_ (a':=?_) ?_ ?_;rotate_left
    ·
     show Act.put _ (some 30) _=_
     simp only [Act.put,zi,zj,zk,zG,zH]
     rfl
    refine two_ (i:=4) (j:=8) (Ni:=some 31) (Nj:=some 6) (bm_ 5 11) #[true,true,true,true,false,false,false,false,true,false,false] rfl rfl rfl rfl jA jC jC (fun K hK=>?_) (fun K hK=>?_)
    ·
     skip
     refine goes_ Try.func21 jA rfl #[.agg #[.slice At T1.length ct,.int .i64 n1],.agg #[.string E1,.int .i64 i1]] (by rfl) rfl rfl jL ?_
     with_reducible refine (Fj.calls k At ct T1 n1 E1 i1 Wl nw d0 _ (Kd.S_reads' ((Kd.S_below hS_1 hb_3))).2.2 (Kd.S_reads' hS_1).2.1 hW).mono ?_
     rintro e w_4 ⟨v_4,rfl,hS_4,hb_4⟩;refine ⟨_,rfl,?_⟩;obtain ⟨A_,c_,rfl⟩:=Kd.S_slice hS_4;have hbx4:=zC hbx3 hb_4;refine hK.out _ _ ⟨(HC2.out _ hbx4).1,(HC2.out _ hbx4).2.1,(HC2.out _ hbx4).2.2.1,(HC2.out _ hbx4).2.2.2⟩ (fun hHeld=>?_);clear hK K;refine norm_ (a':=?_) ?_ ?_;rotate_left
     ·
      show Act.put _ (some 31) _=_
      simp only [Act.put,zi,zj,zk,zG,zH]
      rfl
     refine pure_ (i:=5) (N:=some 26) (v:=?_) (a':=?_) (bm_ 6 11) rfl rfl jA (fun _ _ _ h=>h) (Or.inl ⟨by rfl,?_⟩) ?_ ?_;rotate_left;exact jb;rotate_left;exact jc
     refine pure_ (i:=6) (N:=some 32) (v:=?_) (a':=?_) (bm_ 7 11) rfl rfl jA (fun _ _ _ h=>h) (Or.inl ⟨by rfl,?_⟩) ?_ ?_;rotate_left;exact jb;rotate_left;exact jc
     refine pure_ (i:=7) (N:=some 33) (v:=?_) (a':=?_) (bm_ 8 11) rfl rfl jA (fun _ _ _ h=>h) (Or.inl ⟨by rfl,?_⟩) ?_ ?_;rotate_left;exact jb;rotate_left;exact jc
     refine one_ (i:=8) (N:=some 6) (bm_ 9 11) rfl rfl jA jC (fun K hK=>?_);refine value_ (w1:=?_) (v:=?_) (by rfl) rfl ?_ ?_;rotate_left 2
     ·
      go_simp
      constructor
      ·
       rfl
      rfl
     refine hK.out _ _ ⟨(HC2.out _ (za hbx4 _)).1,(HC2.out _ (za hbx4 _)).2.1,(HC2.out _ (za hbx4 _)).2.2.1,(HC2.out _ (za hbx4 _)).2.2.2⟩ (fun hHeld=>?_);clear hK K;refine norm_ (a':=?_) ?_ ?_;rotate_left
     ·
      show Act.put _ (some 6) _=_
      simp only [Act.put,zi,zj,zk,zG,zH]
      rfl
     exact norm_ jV (hCont (w_4.heap.size,(A_,c_),(At,ct)) _ ⟨(blk_new w_4 _),hbx4.size,(Kd.S_alloc (Kd.S_lower hS_4 hbx3.size) _),(za hbx4 _)⟩)
    skip
    refine value_ (w1:=?_) (v:=?_) (by rfl) rfl ?_ ?_;rotate_left 2
    ·
     go_simp
     constructor
     ·
      rfl
     rfl
    refine hK.out _ _ ⟨(HC2.out _ (za hbx3 _)).1,(HC2.out _ (za hbx3 _)).2.1,(HC2.out _ (za hbx3 _)).2.2.1,(HC2.out _ (za hbx3 _)).2.2.2⟩ (fun hHeld=>?_);clear hK K;refine norm_ (a':=?_) ?_ ?_;rotate_left
    ·
     show Act.put _ (some 6) _=_
     simp only [Act.put,zi,zj,zk,zG,zH]
     rfl
    refine one_ (i:=4) (N:=some 31) #[true,true,true,true,true,false,false,false,true,false,false] rfl rfl jA jC (fun K hK=>?_);refine goes_ Try.func21 jA rfl #[.agg #[.slice At T1.length ct,.int .i64 n1],.agg #[.string E1,.int .i64 i1]] (by rfl) rfl rfl jL ?_
    with_reducible refine (Fj.calls k At ct T1 n1 E1 i1 Wl nw d0 _ (Kd.S_reads' ((Kd.S_alloc (Kd.S_below hS_1 hb_3) _))).2.2 (Kd.S_reads' hS_1).2.1 hW).mono ?_
    rintro e w_4 ⟨v_4,rfl,hS_4,hb_4⟩;refine ⟨_,rfl,?_⟩;obtain ⟨A_,c_,rfl⟩:=Kd.S_slice hS_4;have hbx4:=zC (za hbx3 _) hb_4;refine hK.out _ _ ⟨(HC2.out _ hbx4).1,(HC2.out _ hbx4).2.1,(HC2.out _ hbx4).2.2.1,(HC2.out _ hbx4).2.2.2⟩ (fun hHeld=>?_);clear hK K;refine norm_ (a':=?_) ?_ ?_;rotate_left
    ·
     show Act.put _ (some 31) _=_
     simp only [Act.put,zi,zj,zk,zG,zH]
     rfl
    refine pure_ (i:=5) (N:=some 26) (v:=?_) (a':=?_) #[true,true,true,true,true,true,false,false,true,false,false] rfl rfl jA (fun _ _ _ h=>h) (Or.inl ⟨by rfl,?_⟩) ?_ ?_;rotate_left;exact jb;rotate_left;exact jc
    refine pure_ (i:=6) (N:=some 32) (v:=?_) (a':=?_) #[true,true,true,true,true,true,true,false,true,false,false] rfl rfl jA (fun _ _ _ h=>h) (Or.inl ⟨by rfl,?_⟩) ?_ ?_;rotate_left;exact jb;rotate_left;exact jc
    refine pure_ (i:=7) (N:=some 33) (v:=?_) (a':=?_) (bm_ 9 11) rfl rfl jA (fun _ _ _ h=>h) (Or.inl ⟨by rfl,?_⟩) ?_ ?_;rotate_left;exact jb;rotate_left;exact jc
    exact norm_ jV (hCont (w_3.heap.size,(A_,c_),(At,ct)) _ ⟨(zD (blk_new w_3 _) hb_4),hbx3.size,(Kd.S_lower hS_4 (za hbx3 _).size),hbx4⟩)
   skip
   refine value_ (w1:=?_) (v:=?_) (by rfl) rfl ?_ ?_;rotate_left 2
   ·
    go_simp
    constructor
    ·
     rfl
    rfl
   refine hK.out _ _ ⟨(HC2.out _ (za hbx1 _)).1,(HC2.out _ (za hbx1 _)).2.1,(HC2.out _ (za hbx1 _)).2.2.1,(HC2.out _ (za hbx1 _)).2.2.2⟩ (fun hHeld=>?_);clear hK K;refine norm_ (a':=?_) ?_ ?_;rotate_left
   ·
    show Act.put _ (some 6) _=_
    simp only [Act.put,zi,zj,zk,zG,zH]
    rfl
   refine one_ (i:=3) (N:=some 30) #[true,true,true,true,false,false,false,false,true,false,false] rfl rfl jA jC (fun K hK=>?_);refine goes_ Try.func22 jA rfl #[.agg #[.string a1_0,.int .i64 a1_1]] (by rfl) rfl rfl jL ?_
   with_reducible refine (F5.calls a1_0 a1_1 E1 i1 _ hE).mono ?_
   rintro e w_3 ⟨rfl,hb_3⟩;refine ⟨_,rfl,?_⟩;have hbx3:=zC (za hbx1 _) hb_3;refine hK.out _ _ ⟨(HC2.out _ hbx3).1,(HC2.out _ hbx3).2.1,(HC2.out _ hbx3).2.2.1,(HC2.out _ hbx3).2.2.2⟩ (fun hHeld=>?_);clear hK K;refine norm_ (a':=?_) ?_ ?_;rotate_left
   ·
    show Act.put _ (some 30) _=_
    simp only [Act.put,zi,zj,zk,zG,zH]
    rfl
   refine one_ (i:=4) (N:=some 31) #[true,true,true,true,true,false,false,false,true,false,false] rfl rfl jA jC (fun K hK=>?_);refine goes_ Try.func21 jA rfl #[.agg #[.slice At T1.length ct,.int .i64 n1],.agg #[.string E1,.int .i64 i1]] (by rfl) rfl rfl jL ?_
   with_reducible refine (Fj.calls k At ct T1 n1 E1 i1 Wl nw d0 _ (Kd.S_reads' ((Kd.S_below (Kd.S_alloc hS_1 _) hb_3))).2.2 (Kd.S_reads' hS_1).2.1 hW).mono ?_
   rintro e w_4 ⟨v_4,rfl,hS_4,hb_4⟩;refine ⟨_,rfl,?_⟩;obtain ⟨A_,c_,rfl⟩:=Kd.S_slice hS_4;have hbx4:=zC hbx3 hb_4;refine hK.out _ _ ⟨(HC2.out _ hbx4).1,(HC2.out _ hbx4).2.1,(HC2.out _ hbx4).2.2.1,(HC2.out _ hbx4).2.2.2⟩ (fun hHeld=>?_);clear hK K;refine norm_ (a':=?_) ?_ ?_;rotate_left
   ·
    show Act.put _ (some 31) _=_
    simp only [Act.put,zi,zj,zk,zG,zH]
    rfl
   refine pure_ (i:=5) (N:=some 26) (v:=?_) (a':=?_) #[true,true,true,true,true,true,false,false,true,false,false] rfl rfl jA (fun _ _ _ h=>h) (Or.inl ⟨by rfl,?_⟩) ?_ ?_;rotate_left;exact jb;rotate_left;exact jc
   refine pure_ (i:=6) (N:=some 32) (v:=?_) (a':=?_) #[true,true,true,true,true,true,true,false,true,false,false] rfl rfl jA (fun _ _ _ h=>h) (Or.inl ⟨by rfl,?_⟩) ?_ ?_;rotate_left;exact jb;rotate_left;exact jc
   refine pure_ (i:=7) (N:=some 33) (v:=?_) (a':=?_) (bm_ 9 11) rfl rfl jA (fun _ _ _ h=>h) (Or.inl ⟨by rfl,?_⟩) ?_ ?_;rotate_left;exact jb;rotate_left;exact jc
   exact norm_ jV (hCont (w_1.heap.size,(A_,c_),(At,ct)) _ ⟨(zD (zD (blk_new w_1 _) hb_3) hb_4),hbx1.size,(Kd.S_lower hS_4 hbx3.size),hbx4⟩)
  skip
  refine value_ (w1:=?_) (v:=?_) (by rfl) rfl ?_ ?_;rotate_left 2
  ·
   go_simp
   constructor
   ·
    rfl
   rfl
  refine hK.out _ _ ⟨(HC2.out _ (za hbd _)).1,(HC2.out _ (za hbd _)).2.1,(HC2.out _ (za hbd _)).2.2.1,(HC2.out _ (za hbd _)).2.2.2⟩ (fun hHeld=>?_);clear hK K;refine norm_ (a':=?_) ?_ ?_;rotate_left
  ·
   show Act.put _ (some 6) _=_
   simp only [Act.put,zi,zj,zk,zG,zH]
   rfl
  refine one_ (i:=1) (N:=some 28) #[true,true,true,false,false,false,false,false,true,false,false] rfl rfl jA jC (fun K hK=>?_);refine goes_ Try.func9 jA rfl #[.agg #[.slice A0_0 l0_0.length c0_0,.int .i64 a0_1]] (by rfl) rfl rfl jL ?_
  with_reducible refine (F06.calls k A0_0 c0_0 l0_0 a0_1 T1 n1 _ (HCX.out _ (zC HB2.out (za hbd _))) hc0_0 hT).mono ?_
  rintro e w_1 ⟨v_1,rfl,hS_1,hb_1⟩;refine ⟨_,rfl,?_⟩;obtain ⟨At,ct,rfl⟩:=Kd.S_slice hS_1;have hbx1:=zC (za hbd _) hb_1;refine hK.out _ _ ⟨(HC2.out _ hbx1).1,(HC2.out _ hbx1).2.1,(HC2.out _ hbx1).2.2.1,(HC2.out _ hbx1).2.2.2⟩ (fun hHeld=>?_);clear hK K;refine norm_ (a':=?_) ?_ ?_;rotate_left
  ·
   show Act.put _ (some 28) _=_
   simp only [Act.put,zi,zj,zk,zG,zH]
   rfl
  refine one_ (i:=3) (N:=some 30) #[true,true,true,true,false,false,false,false,true,false,false] rfl rfl jA jC (fun K hK=>?_);refine goes_ Try.func22 jA rfl #[.agg #[.string a1_0,.int .i64 a1_1]] (by rfl) rfl rfl jL ?_
  with_reducible refine (F5.calls a1_0 a1_1 E1 i1 _ hE).mono ?_
  rintro e w_3 ⟨rfl,hb_3⟩;refine ⟨_,rfl,?_⟩;have hbx3:=zC hbx1 hb_3;refine hK.out _ _ ⟨(HC2.out _ hbx3).1,(HC2.out _ hbx3).2.1,(HC2.out _ hbx3).2.2.1,(HC2.out _ hbx3).2.2.2⟩ (fun hHeld=>?_);clear hK K;refine norm_ (a':=?_) ?_ ?_;rotate_left
  ·
   show Act.put _ (some 30) _=_
   simp only [Act.put,zi,zj,zk,zG,zH]
   rfl
  refine one_ (i:=4) (N:=some 31) #[true,true,true,true,true,false,false,false,true,false,false] rfl rfl jA jC (fun K hK=>?_);refine goes_ Try.func21 jA rfl #[.agg #[.slice At T1.length ct,.int .i64 n1],.agg #[.string E1,.int .i64 i1]] (by rfl) rfl rfl jL ?_
  with_reducible refine (Fj.calls k At ct T1 n1 E1 i1 Wl nw d0 _ (Kd.S_reads' ((Kd.S_below hS_1 hb_3))).2.2 (Kd.S_reads' hS_1).2.1 hW).mono ?_
  rintro e w_4 ⟨v_4,rfl,hS_4,hb_4⟩;refine ⟨_,rfl,?_⟩;obtain ⟨A_,c_,rfl⟩:=Kd.S_slice hS_4;have hbx4:=zC hbx3 hb_4;refine hK.out _ _ ⟨(HC2.out _ hbx4).1,(HC2.out _ hbx4).2.1,(HC2.out _ hbx4).2.2.1,(HC2.out _ hbx4).2.2.2⟩ (fun hHeld=>?_);clear hK K;refine norm_ (a':=?_) ?_ ?_;rotate_left
  ·
   show Act.put _ (some 31) _=_
   simp only [Act.put,zi,zj,zk,zG,zH]
   rfl
  refine pure_ (i:=5) (N:=some 26) (v:=?_) (a':=?_) #[true,true,true,true,true,true,false,false,true,false,false] rfl rfl jA (fun _ _ _ h=>h) (Or.inl ⟨by rfl,?_⟩) ?_ ?_;rotate_left;exact jb;rotate_left;exact jc
  refine pure_ (i:=6) (N:=some 32) (v:=?_) (a':=?_) #[true,true,true,true,true,true,true,false,true,false,false] rfl rfl jA (fun _ _ _ h=>h) (Or.inl ⟨by rfl,?_⟩) ?_ ?_;rotate_left;exact jb;rotate_left;exact jc
  refine pure_ (i:=7) (N:=some 33) (v:=?_) (a':=?_) (bm_ 9 11) rfl rfl jA (fun _ _ _ h=>h) (Or.inl ⟨by rfl,?_⟩) ?_ ?_;rotate_left;exact jb;rotate_left;exact jc
  exact norm_ jV (hCont (wd.heap.size,(A_,c_),(At,ct)) _ ⟨(zD (zD (zD (blk_new wd _) hb_1) hb_3) hb_4),hbd.size,(Kd.S_lower hS_4 hbx3.size),hbx4⟩)
 rintro ⟨bb,⟨A_,c_⟩,s3⟩ wt ⟨hbox,hbb,hS_,hb_⟩;have q0:=zz hbox 0;have q1:=zz hbox 1;have f0:=zA hbox 0;have f1:=zA hbox 1;refine norm_ (a':=?_) ?_ ?_;rotate_left
 ·
  simp only [putAll,Act.put,zi,zj,zk]
  rfl
 refine last_ (i:=9) (N:=none) (bm_ 10 11) rfl rfl jA jC (fun K hK=>?_);refine skip_ (w1:=?_) (by rfl) rfl ?_ ?_;rotate_left
 ·
  go_simp
  rfl
 refine hK.out _ _ ?_;clear hK K;refine pure_ (i:=10) (N:=some 7) (v:=?_) (a':=?_) (bm_ 11 11) rfl rfl jA (fun _ _ _ h=>h) (Or.inl ⟨by rfl,?_⟩) ?_ ?_;rotate_left;exact jb;rotate_left;exact jc
 refine done_ jA ?_;have hbx_ : ((wt.setCell ⟨bb,0,none⟩ (.slice A_ Wl.length c_)).setCell ⟨bb,1,none⟩ (.int .i64 nw)).heap[bb]? = some (.cells #[.slice A_ Wl.length c_,.int .i64 nw] 35 (0,0)):=blk_set (blk_set hbox 0 (.slice A_ Wl.length c_)) 1 (.int .i64 nw);have hS2_:=Kd.S_types hS_ hbox jC;have hS3_:=Kd.S_far (p:=⟨bb,1,none⟩) (Kd.S_far (p:=⟨bb,0,none⟩) hS2_ (fun _ hk=>hk.2) (.slice A_ Wl.length c_)) (fun _ hk=>hk.2) (.int .i64 nw);have hsz_ : ((wt.setCell ⟨bb,0,none⟩ (.slice A_ Wl.length c_)).setCell ⟨bb,1,none⟩ (.int .i64 nw)).heap.size=wt.heap.size:=by simp
 have HLw:=zh (Kd.S_reads' hS_).2.1;have HB10:=zh (zd (zd (zC HB2.out hb_) (Nat.le_trans HB2.out.size hbb)) (Nat.le_trans HB2.out.size hbb) : Below V.heap.size V ((wt.setCell ⟨bb,0,none⟩ (.slice A_ Wl.length c_)).setCell ⟨bb,1,none⟩ (.int .i64 nw)));have HW10:=zh (Kd.F_mono (Kd.F_bound (Kd.S_F hS3_)) (ok':=fun k=>k<((wt.setCell ⟨bb,0,none⟩ (.slice A_ Wl.length c_)).setCell ⟨bb,1,none⟩ (.int .i64 nw)).heap.size∧k≠bb) (fun _ hk=>⟨hk.2,hk.1.2⟩));have H6_10:=zh hbx_;clear hbd hbx_ hS2_ hS3_ hS_ hb_ hbox hbb q0 q1 f0 f1 hsz_ HB2 HC2 c2b;generalize hw10 : (wt.setCell ⟨bb,0,none⟩ (.slice A_ Wl.length c_)).setCell ⟨bb,1,none⟩ (.int .i64 nw)=w10 at *;clear hw10;obtain ⟨Aw,rfl⟩ : ∃ A,A=A_:=⟨_,rfl⟩;obtain ⟨cw,rfl⟩ : ∃ c,c=c_:=⟨_,rfl⟩;obtain ⟨b6,rfl⟩ : ∃ b,b=bb:=⟨_,rfl⟩;obtain ⟨k0,k1,-,-⟩:=HCE.out w10 HB10.out
 go_wp2_with fail
 go_at_call 9
 refine (F06.calls k A0_0 c0_0 l0_0 a0_1 T1 n1 w10 (HCX.out w10 HB10.out) hc0_0 hT).mono ?_;rintro e w11 ⟨v_,rfl,hS_,hb_⟩;obtain ⟨Ax,cx,rfl⟩:=Kd.S_slice hS_;have HX11:=zh (Kd.S_lower (Kd.S_mono (ok':=fun k=>w10.heap.size≤k∧k<w11.heap.size) (Kd.S_bound hS_) (fun _ hk=>⟨hk.2.1,hk.2.2.1⟩)) HB10.out.size);have HB11:=zh (zC HB10.out hb_);have H6_11:=zh (zD H6_10.out hb_);have HW11:=zh (Kd.F_below HW10.out hb_);have L10_11:=zh hb_.size;have B6L : Aside0 (b6<w10.heap.size):=⟨yi H6_10.out⟩;clear hS_ hb_ k0 k1 HB10 H6_10 HW10;obtain ⟨w12,hw12⟩ : ∃ w12,w12=w11.alloc (.cells #[.slice Ax T1.length cx,.int .i64 n1] 35):=⟨_,rfl⟩;obtain ⟨b8,hb8⟩ : ∃ b,b=w11.heap.size:=⟨_,rfl⟩;have H8_12 : Aside0 (w12.heap[b8]? = some (.cells #[.slice Ax T1.length cx,.int .i64 n1] 35 (0,0))):=⟨by rw [hw12,hb8];exact blk_new w11 _⟩;have HX12 : Aside0 (Kd.S k67 67 w12 V.heap.size (fun k=>w10.heap.size≤k∧k<w11.heap.size) (.slice Ax T1.length cx) T1):=⟨by rw [hw12];exact Kd.S_alloc HX11.out _⟩;have HW12 : Aside0 (Kd.F k67 w12 (fun k=>k<w10.heap.size∧k≠b6) Aw Wl.length Wl):=⟨by rw [hw12];exact Kd.F_alloc HW11.out _⟩;have H6_12 : Aside0 (w12.heap[b6]? = some (.cells #[.slice Aw Wl.length cw,.int .i64 nw] 35 (0,0))):=⟨by rw [hw12];exact zg H6_11.out _⟩;have HB12 : Aside0 (Below V.heap.size V w12):=⟨by rw [hw12];exact za HB11.out _⟩;have L11_12 : Aside0 (w11.heap.size≤w12.heap.size):=⟨Nat.le_of_lt (by rw [hw12];simp)⟩;have L10_12:=zh (Nat.le_trans L10_11.out L11_12.out);clear HX11 HW11 H6_11 HB11
 go_wp2_with fail
 rw [← hw12];simp only [← hb8];clear hw12 hb8;have HC10 : Aside0 (∀ W1,Below w12.heap.size w12 W1→(W1.cell? ⟨b8,0,none⟩=some (.slice Ax T1.length cx)∧W1.cell? ⟨b8,1,none⟩=some (.int .i64 n1)∧W1.cell? ⟨g1,0,none⟩=some (.string a1_0)∧W1.cell? ⟨g1,1,none⟩=some (.int .i64 a1_1))):=⟨fun W1 hb=>⟨(zz (zD H8_12.out hb) 0).trans rfl,(zz (zD H8_12.out hb) 1).trans rfl,(HCE.out W1 (zC HB12.out hb)).2.2.1,(HCE.out W1 (zC HB12.out hb)).2.2.2⟩⟩;have hbd : Below w12.heap.size w12 w12.drew:=zc (Below.refl _ _);refine start_ (n:=10) (S:=fun w' => w'.cell? ⟨b8,0,none⟩=some (.slice Ax T1.length cx)∧w'.cell? ⟨b8,1,none⟩=some (.int .i64 n1)∧w'.cell? ⟨g1,0,none⟩=some (.string a1_0)∧w'.cell? ⟨g1,1,none⟩=some (.int .i64 a1_1)) (ds:=[8]) (bm_ 0 10) jA rfl rfl ⟨(HC10.out _ hbd).1,(HC10.out _ hbd).2.1,(HC10.out _ hbd).2.2.1,(HC10.out _ hbd).2.2.2⟩ (fun hHeld=>?_);generalize w12.drew=wd at hbd hHeld ⊢;refine take_ (i:=0) (N:=some 37) (v:=?_) (a':=?_) (bm_ 1 10) rfl rfl jA (fun _ _ _ h=>h) (Or.inl ⟨by rfl,?_⟩) hHeld ?_ ?_;rotate_left
 ·
  rintro w' ⟨s0,s1,s2,s3⟩
  go_simp
  with_reducible rfl
 rotate_left
 exact jc
 refine take_ (i:=1) (N:=some 38) (v:=?_) (a':=?_) (bm_ 2 10) rfl rfl jA (fun _ _ _ h=>h) (Or.inl ⟨by rfl,?_⟩) hHeld ?_ ?_;rotate_left
 ·
  rintro w' ⟨s0,s1,s2,s3⟩
  go_simp
  with_reducible rfl
 rotate_left
 exact jc
 refine join_ (σ:=Nat×(Option Addr×Nat)×(Option Addr×Nat)) 2 (bm_ 8 10) (fun s => [(9,.pointer (some ⟨s.1,0,none⟩)),(39,.agg #[.string E1,.int .i64 i1]),(40,.tuple #[.agg #[.slice s.2.1.1 Gl.length s.2.1.2,.int .i64 ng],.int .i64 d0]),(36,.tuple #[.agg #[.slice s.2.1.1 Gl.length s.2.1.2,.int .i64 ng],.int .i64 d0]),(41,.agg #[.slice s.2.1.1 Gl.length s.2.1.2,.int .i64 ng]),(42,.int .i64 d0)]) (fun s w' => w'.heap[s.1]? = some (.cells #[.slice none 0 0,.int .i64 0] 35 (0,0))∧w12.heap.size≤s.1∧Kd.S k67 67 w' w12.heap.size (fun _=>True) (.slice s.2.1.1 Gl.length s.2.1.2) Gl∧Below w12.heap.size w12 w') ?_ ?_;rotate_left
 ·
  intro hCont
  refine two_ (i:=2) (j:=7) (Ni:=some 39) (Nj:=some 9) (bm_ 3 10) #[true,true,false,false,false,false,false,true,false,false] rfl rfl rfl rfl jA jC jC (fun K hK=>?_) (fun K hK=>?_)
  ·
   skip
   refine goes_ Try.func22 jA rfl #[.agg #[.string a1_0,.int .i64 a1_1]] (by rfl) rfl rfl jL ?_
   with_reducible refine (F5.calls a1_0 a1_1 E1 i1 _ hE).mono ?_
   rintro e w_2 ⟨rfl,hb_2⟩;refine ⟨_,rfl,?_⟩;have hbx2:=zC hbd hb_2;refine hK.out _ _ ⟨(HC10.out _ hbx2).1,(HC10.out _ hbx2).2.1,(HC10.out _ hbx2).2.2.1,(HC10.out _ hbx2).2.2.2⟩ (fun hHeld=>?_);clear hK K;refine norm_ (a':=?_) ?_ ?_;rotate_left
   ·
    show Act.put _ (some 39) _=_
    simp only [Act.put,zi,zj,zk,zG,zH]
    rfl
   refine two_ (i:=3) (j:=7) (Ni:=some 40) (Nj:=some 9) (bm_ 4 10) #[true,true,true,false,false,false,false,true,false,false] rfl rfl rfl rfl jA jC jC (fun K hK=>?_) (fun K hK=>?_)
   ·
    skip
    refine goes_ Try.func23 jA rfl #[.agg #[.slice Ax T1.length cx,.int .i64 n1],.agg #[.string E1,.int .i64 i1]] (by rfl) rfl rfl jL ?_
    with_reducible refine (F04.calls k Ax cx T1 n1 E1 i1 Gl ng d0 _ (Kd.S_reads' (Kd.S_below HX12.out hbx2)).2.2 (Kd.S_reads' HX12.out).2.1 hG).mono ?_
    rintro e w_3 ⟨v_3,rfl,hS_3,hb_3⟩;refine ⟨_,rfl,?_⟩;obtain ⟨A_,c_,rfl⟩:=Kd.S_slice hS_3;have hbx3:=zC hbx2 hb_3;refine hK.out _ _ ⟨(HC10.out _ hbx3).1,(HC10.out _ hbx3).2.1,(HC10.out _ hbx3).2.2.1,(HC10.out _ hbx3).2.2.2⟩ (fun hHeld=>?_);clear hK K;refine norm_ (a':=?_) ?_ ?_;rotate_left
    ·
     show Act.put _ (some 40) _=_
     simp only [Act.put,zi,zj,zk,zG,zH]
     rfl
    refine pure_ (i:=4) (N:=some 36) (v:=?_) (a':=?_) (bm_ 5 10) rfl rfl jA (fun _ _ _ h=>h) (Or.inl ⟨by rfl,?_⟩) ?_ ?_;rotate_left;exact jb;rotate_left;exact jc
    refine pure_ (i:=5) (N:=some 41) (v:=?_) (a':=?_) (bm_ 6 10) rfl rfl jA (fun _ _ _ h=>h) (Or.inl ⟨by rfl,?_⟩) ?_ ?_;rotate_left;exact jb;rotate_left;exact jc
    refine pure_ (i:=6) (N:=some 42) (v:=?_) (a':=?_) (bm_ 7 10) rfl rfl jA (fun _ _ _ h=>h) (Or.inl ⟨by rfl,?_⟩) ?_ ?_;rotate_left;exact jb;rotate_left;exact jc
    refine one_ (i:=7) (N:=some 9) (bm_ 8 10) rfl rfl jA jC (fun K hK=>?_);refine value_ (w1:=?_) (v:=?_) (by rfl) rfl ?_ ?_;rotate_left 2
    ·
     go_simp
     constructor
     ·
      rfl
     rfl
    refine hK.out _ _ ⟨(HC10.out _ (za hbx3 _)).1,(HC10.out _ (za hbx3 _)).2.1,(HC10.out _ (za hbx3 _)).2.2.1,(HC10.out _ (za hbx3 _)).2.2.2⟩ (fun hHeld=>?_);clear hK K;refine norm_ (a':=?_) ?_ ?_;rotate_left
    ·
     show Act.put _ (some 9) _=_
     simp only [Act.put,zi,zj,zk,zG,zH]
     rfl
    exact norm_ jV (hCont (w_3.heap.size,(A_,c_),(none,0)) _ ⟨(blk_new w_3 _),hbx3.size,(Kd.S_alloc (Kd.S_lower hS_3 hbx2.size) _),(za hbx3 _)⟩)
   skip
   refine value_ (w1:=?_) (v:=?_) (by rfl) rfl ?_ ?_;rotate_left 2
   ·
    go_simp
    constructor
    ·
     rfl
    rfl
   refine hK.out _ _ ⟨(HC10.out _ (za hbx2 _)).1,(HC10.out _ (za hbx2 _)).2.1,(HC10.out _ (za hbx2 _)).2.2.1,(HC10.out _ (za hbx2 _)).2.2.2⟩ (fun hHeld=>?_);clear hK K;refine norm_ (a':=?_) ?_ ?_;rotate_left
   ·
    show Act.put _ (some 9) _=_
    simp only [Act.put,zi,zj,zk,zG,zH]
    rfl
   refine one_ (i:=3) (N:=some 40) #[true,true,true,true,false,false,false,true,false,false] rfl rfl jA jC (fun K hK=>?_);refine goes_ Try.func23 jA rfl #[.agg #[.slice Ax T1.length cx,.int .i64 n1],.agg #[.string E1,.int .i64 i1]] (by rfl) rfl rfl jL ?_
   with_reducible refine (F04.calls k Ax cx T1 n1 E1 i1 Gl ng d0 _ (Kd.S_reads' (Kd.S_below HX12.out (za hbx2 _))).2.2 (Kd.S_reads' HX12.out).2.1 hG).mono ?_
   rintro e w_3 ⟨v_3,rfl,hS_3,hb_3⟩;refine ⟨_,rfl,?_⟩;obtain ⟨A_,c_,rfl⟩:=Kd.S_slice hS_3;have hbx3:=zC (za hbx2 _) hb_3;refine hK.out _ _ ⟨(HC10.out _ hbx3).1,(HC10.out _ hbx3).2.1,(HC10.out _ hbx3).2.2.1,(HC10.out _ hbx3).2.2.2⟩ (fun hHeld=>?_);clear hK K;refine norm_ (a':=?_) ?_ ?_;rotate_left
   ·
    show Act.put _ (some 40) _=_
    simp only [Act.put,zi,zj,zk,zG,zH]
    rfl
   refine pure_ (i:=4) (N:=some 36) (v:=?_) (a':=?_) #[true,true,true,true,true,false,false,true,false,false] rfl rfl jA (fun _ _ _ h=>h) (Or.inl ⟨by rfl,?_⟩) ?_ ?_;rotate_left;exact jb;rotate_left;exact jc
   refine pure_ (i:=5) (N:=some 41) (v:=?_) (a':=?_) #[true,true,true,true,true,true,false,true,false,false] rfl rfl jA (fun _ _ _ h=>h) (Or.inl ⟨by rfl,?_⟩) ?_ ?_;rotate_left;exact jb;rotate_left;exact jc
   refine pure_ (i:=6) (N:=some 42) (v:=?_) (a':=?_) (bm_ 8 10) rfl rfl jA (fun _ _ _ h=>h) (Or.inl ⟨by rfl,?_⟩) ?_ ?_;rotate_left;exact jb;rotate_left;exact jc
   exact norm_ jV (hCont (w_2.heap.size,(A_,c_),(none,0)) _ ⟨(zD (blk_new w_2 _) hb_3),hbx2.size,(Kd.S_lower hS_3 (za hbx2 _).size),hbx3⟩)
  skip
  refine value_ (w1:=?_) (v:=?_) (by rfl) rfl ?_ ?_;rotate_left 2
  ·
   go_simp
   constructor
   ·
    rfl
   rfl
  refine hK.out _ _ ⟨(HC10.out _ (za hbd _)).1,(HC10.out _ (za hbd _)).2.1,(HC10.out _ (za hbd _)).2.2.1,(HC10.out _ (za hbd _)).2.2.2⟩ (fun hHeld=>?_);clear hK K;refine norm_ (a':=?_) ?_ ?_;rotate_left
  ·
   show Act.put _ (some 9) _=_
   simp only [Act.put,zi,zj,zk,zG,zH]
   rfl
  refine one_ (i:=2) (N:=some 39) #[true,true,true,false,false,false,false,true,false,false] rfl rfl jA jC (fun K hK=>?_);refine goes_ Try.func22 jA rfl #[.agg #[.string a1_0,.int .i64 a1_1]] (by rfl) rfl rfl jL ?_
  with_reducible refine (F5.calls a1_0 a1_1 E1 i1 _ hE).mono ?_
  rintro e w_2 ⟨rfl,hb_2⟩;refine ⟨_,rfl,?_⟩;have hbx2:=zC (za hbd _) hb_2;refine hK.out _ _ ⟨(HC10.out _ hbx2).1,(HC10.out _ hbx2).2.1,(HC10.out _ hbx2).2.2.1,(HC10.out _ hbx2).2.2.2⟩ (fun hHeld=>?_);clear hK K;refine norm_ (a':=?_) ?_ ?_;rotate_left
  ·
   show Act.put _ (some 39) _=_
   simp only [Act.put,zi,zj,zk,zG,zH]
   rfl
  refine one_ (i:=3) (N:=some 40) #[true,true,true,true,false,false,false,true,false,false] rfl rfl jA jC (fun K hK=>?_);refine goes_ Try.func23 jA rfl #[.agg #[.slice Ax T1.length cx,.int .i64 n1],.agg #[.string E1,.int .i64 i1]] (by rfl) rfl rfl jL ?_
  with_reducible refine (F04.calls k Ax cx T1 n1 E1 i1 Gl ng d0 _ (Kd.S_reads' (Kd.S_below HX12.out hbx2)).2.2 (Kd.S_reads' HX12.out).2.1 hG).mono ?_
  rintro e w_3 ⟨v_3,rfl,hS_3,hb_3⟩;refine ⟨_,rfl,?_⟩;obtain ⟨A_,c_,rfl⟩:=Kd.S_slice hS_3;have hbx3:=zC hbx2 hb_3;refine hK.out _ _ ⟨(HC10.out _ hbx3).1,(HC10.out _ hbx3).2.1,(HC10.out _ hbx3).2.2.1,(HC10.out _ hbx3).2.2.2⟩ (fun hHeld=>?_);clear hK K;refine norm_ (a':=?_) ?_ ?_;rotate_left
  ·
   show Act.put _ (some 40) _=_
   simp only [Act.put,zi,zj,zk,zG,zH]
   rfl
  refine pure_ (i:=4) (N:=some 36) (v:=?_) (a':=?_) #[true,true,true,true,true,false,false,true,false,false] rfl rfl jA (fun _ _ _ h=>h) (Or.inl ⟨by rfl,?_⟩) ?_ ?_;rotate_left;exact jb;rotate_left;exact jc
  refine pure_ (i:=5) (N:=some 41) (v:=?_) (a':=?_) #[true,true,true,true,true,true,false,true,false,false] rfl rfl jA (fun _ _ _ h=>h) (Or.inl ⟨by rfl,?_⟩) ?_ ?_;rotate_left;exact jb;rotate_left;exact jc
  refine pure_ (i:=6) (N:=some 42) (v:=?_) (a':=?_) (bm_ 8 10) rfl rfl jA (fun _ _ _ h=>h) (Or.inl ⟨by rfl,?_⟩) ?_ ?_;rotate_left;exact jb;rotate_left;exact jc
  exact norm_ jV (hCont (wd.heap.size,(A_,c_),(none,0)) _ ⟨(zD (zD (blk_new wd _) hb_2) hb_3),hbd.size,(Kd.S_lower hS_3 hbx2.size),hbx3⟩)
 rintro ⟨bb,⟨A_,c_⟩,s3⟩ wt ⟨hbox,hbb,hS_,hb_⟩;have q0:=zz hbox 0;have q1:=zz hbox 1;have f0:=zA hbox 0;have f1:=zA hbox 1;refine norm_ (a':=?_) ?_ ?_;rotate_left
 ·
  simp only [putAll,Act.put,zi,zj,zk]
  rfl
 refine last_ (i:=8) (N:=none) (bm_ 9 10) rfl rfl jA jC (fun K hK=>?_);refine skip_ (w1:=?_) (by rfl) rfl ?_ ?_;rotate_left
 ·
  go_simp
  rfl
 refine hK.out _ _ ?_;clear hK K;refine pure_ (i:=9) (N:=some 10) (v:=?_) (a':=?_) (bm_ 10 10) rfl rfl jA (fun _ _ _ h=>h) (Or.inl ⟨by rfl,?_⟩) ?_ ?_;rotate_left;exact jb;rotate_left;exact jc
 refine done_ jA ?_;have hbx_ : ((wt.setCell ⟨bb,0,none⟩ (.slice A_ Gl.length c_)).setCell ⟨bb,1,none⟩ (.int .i64 ng)).heap[bb]? = some (.cells #[.slice A_ Gl.length c_,.int .i64 ng] 35 (0,0)):=blk_set (blk_set hbox 0 (.slice A_ Gl.length c_)) 1 (.int .i64 ng);have hS2_:=Kd.S_types hS_ hbox jC;have hS3_:=Kd.S_far (p:=⟨bb,1,none⟩) (Kd.S_far (p:=⟨bb,0,none⟩) hS2_ (fun _ hk=>hk.2) (.slice A_ Gl.length c_)) (fun _ hk=>hk.2) (.int .i64 ng);have hsz_ : ((wt.setCell ⟨bb,0,none⟩ (.slice A_ Gl.length c_)).setCell ⟨bb,1,none⟩ (.int .i64 ng)).heap.size=wt.heap.size:=by simp
 have HG15:=zh (Kd.S_lower (Kd.S_mono (ok':=fun k=>w12.heap.size≤k∧k≠bb) (Kd.S_bound hS3_) (fun _ hk=>⟨hk.2.1,hk.1.2⟩)) HB12.out.size);have hle_:=Nat.le_trans HB12.out.size hbb;have HB15:=zh (zd (zd (zC HB12.out hb_) hle_) hle_ : Below V.heap.size V ((wt.setCell ⟨bb,0,none⟩ (.slice A_ Gl.length c_)).setCell ⟨bb,1,none⟩ (.int .i64 ng)));have hb15 : Below w12.heap.size w12 ((wt.setCell ⟨bb,0,none⟩ (.slice A_ Gl.length c_)).setCell ⟨bb,1,none⟩ (.int .i64 ng)):=zd (zd hb_ hbb) hbb;have H9_15:=zh hbx_;have H6_15:=zh (zD H6_12.out hb15);have H8_15:=zh (zD H8_12.out hb15);have HW15:=zh (Kd.F_below HW12.out hb15);have HX15:=zh (Kd.S_below HX12.out hb15);have B6G : Aside0 (b6<w12.heap.size):=⟨Nat.lt_of_lt_of_le B6L.out L10_12.out⟩;have B9G:=zh hbb;clear hbd hbx_ hS2_ hS3_ hS_ hb_ hbox hbb q0 q1 f0 f1 hsz_ hle_ hb15 HB12 H6_12 H8_12 HW12 HX12 HC10;generalize hw15 : (wt.setCell ⟨bb,0,none⟩ (.slice A_ Gl.length c_)).setCell ⟨bb,1,none⟩ (.int .i64 ng)=w15 at *;clear hw15;obtain ⟨Ag,rfl⟩ : ∃ A,A=A_:=⟨_,rfl⟩;obtain ⟨cg,rfl⟩ : ∃ c,c=c_:=⟨_,rfl⟩;obtain ⟨b9,rfl⟩ : ∃ b,b=bb:=⟨_,rfl⟩;have k0:=zz H9_15.out 0;have k1:=zz H9_15.out 1;have k2:=zz H6_15.out 0;have k3:=zz H6_15.out 1
 go_wp2_with fail
 go_at_call 14
 refine (F05.calls k Ag cg Gl ng Aw cw Wl nw true w15 (Kd.S_reads' HG15.out).2.2 (Kd.S_reads' HG15.out).2.1 (Kd.F_now HW15.out) HLw.out hq1).mono ?_;rintro e w16 ⟨rfl,hb_⟩;have H6_16:=zh (zD H6_15.out hb_);have H8_16:=zh (zD H8_15.out hb_);have H9_16:=zh (zD H9_15.out hb_);have HW16:=zh (Kd.F_below HW15.out hb_);have HX16:=zh (Kd.S_below HX15.out hb_);have HG16:=zh (Kd.S_below HG15.out hb_);have HB16:=zh (zC HB15.out hb_);clear H6_15 H8_15 H9_15 HW15 HX15 HG15 HB15 hb_ k0 k1 k2 k3;have qd0 : (d0 == d0)=true:=beq_self_eq_true _
 go_wp2_with fail
 have HC13 : Aside0 (∀ W1,Below w16.heap.size w16 W1→(W1.cell? ⟨b8,0,none⟩=some (.slice Ax T1.length cx)∧W1.cell? ⟨b8,1,none⟩=some (.int .i64 n1)∧W1.cell? ⟨g0,0,none⟩=some (.slice A0_0 l0_0.length c0_0)∧W1.cell? ⟨g0,1,none⟩=some (.int .i64 a0_1))):=⟨fun W1 hb=>⟨(zz (zD H8_16.out hb) 0).trans rfl,(zz (zD H8_16.out hb) 1).trans rfl,(HCE.out W1 (zC HB16.out hb)).1,(HCE.out W1 (zC HB16.out hb)).2.1⟩⟩;refine start_ (n:=5) (S:=fun w' => w'.cell? ⟨b8,0,none⟩=some (.slice Ax T1.length cx)∧w'.cell? ⟨b8,1,none⟩=some (.int .i64 n1)∧w'.cell? ⟨g0,0,none⟩=some (.slice A0_0 l0_0.length c0_0)∧w'.cell? ⟨g0,1,none⟩=some (.int .i64 a0_1)) (ds:=[3]) #[false,false,false,false,false] jA rfl rfl ⟨(HC13.out _ (zc (Below.refl w16.heap.size w16))).1,(HC13.out _ (zc (Below.refl w16.heap.size w16))).2.1,(HC13.out _ (zc (Below.refl w16.heap.size w16))).2.2.1,(HC13.out _ (zc (Below.refl w16.heap.size w16))).2.2.2⟩ (fun hHeld=>?_);refine take_ (i:=0) (N:=some 52) (v:=?_) (a':=?_) #[true,false,false,false,false] rfl rfl jA (fun _ _ _ h=>h) (Or.inl ⟨by rfl,?_⟩) hHeld ?_ ?_;rotate_left
 ·
  rintro w' ⟨s0,s1,s2,s3⟩
  go_simp
  with_reducible rfl
 rotate_left
 exact jc
 refine take_ (i:=1) (N:=some 53) (v:=?_) (a':=?_) #[true,true,false,false,false] rfl rfl jA (fun _ _ _ h=>h) (Or.inl ⟨by rfl,?_⟩) hHeld ?_ ?_;rotate_left
 ·
  rintro w' ⟨s0,s1,s2,s3⟩
  go_simp
  with_reducible rfl
 rotate_left
 exact jc
 refine one_ (i:=2) (N:=some 54) #[true,true,true,false,false] rfl rfl jA jC (fun K hK=>?_);refine goes_ Try.func9 jA rfl #[.agg #[.slice A0_0 l0_0.length c0_0,.int .i64 a0_1]] (by rfl) rfl rfl jL ?_
 with_reducible refine (F06.calls k A0_0 c0_0 l0_0 a0_1 T1 n1 _ (HCX.out _ (zC HB16.out (zc (Below.refl w16.heap.size w16)))) hc0_0 hT).mono ?_
 rintro e w17 ⟨v_,rfl,hS_,hb_⟩;refine ⟨_,rfl,?_⟩;obtain ⟨Ay,cy,rfl⟩:=Kd.S_slice hS_;have hb17:=zC (zc (Below.refl w16.heap.size w16)) hb_;refine hK.out _ _ ⟨(HC13.out _ hb17).1,(HC13.out _ hb17).2.1,(HC13.out _ hb17).2.2.1,(HC13.out _ hb17).2.2.2⟩ (fun hHeld=>?_);clear hK K;refine norm_ (a':=?_) ?_ ?_;rotate_left
 ·
  show Act.put _ (some 54) _=_
  simp only [Act.put,zi,zj,zk,zG,zH]
  rfl
 refine last_ (i:=3) (N:=some 55) #[true,true,true,true,false] rfl rfl jA jC (fun K hK=>?_);refine goes_ Try.func14 jA rfl #[.agg #[.slice Ax T1.length cx,.int .i64 n1],.agg #[.slice Ay T1.length cy,.int .i64 n1]] (by rfl) rfl rfl jL ?_
 with_reducible refine (F05.calls k Ax cx T1 n1 Ay cy T1 n1 true _ (Kd.S_reads' (Kd.S_below HX16.out hb17)).2.2 (Kd.S_reads' HX16.out).2.1 (Kd.S_reads' hS_).2.2 (Kd.S_reads' hS_).2.1 hq2).mono ?_
 rintro e w18 ⟨rfl,hb18⟩;refine ⟨_,rfl,?_⟩;refine hK.out _ _ ?_;clear hK K;refine norm_ (a':=?_) ?_ ?_;rotate_left
 ·
  show Act.put _ (some 55) _=_
  simp only [Act.put,zi,zj,zk,zG,zH]
  rfl
 refine pure_ (i:=4) (N:=some 56) (v:=?_) (a':=?_) #[true,true,true,true,true] rfl rfl jA (fun _ _ _ h=>h) (Or.inl ⟨by rfl,?_⟩) ?_ ?_;rotate_left;exact jb;rotate_left;exact jc
 refine done_ jA ?_;have hb1618:=zC hb17 hb18;clear hS_ hb_ hb17 hb18 HC13;have H6_18:=zh (zD H6_16.out hb1618);have H8_18:=zh (zD H8_16.out hb1618);have H9_18:=zh (zD H9_16.out hb1618);have HW18:=zh (Kd.F_below HW16.out hb1618);have HX18:=zh (Kd.S_below HX16.out hb1618);have HG18:=zh (Kd.S_below HG16.out hb1618);have HB18:=zh (zC HB16.out hb1618);clear H6_16 H8_16 H9_16 HW16 HX16 HG16 HB16 hb1618;have k0:=zz H8_18.out 0;have k1:=zz H8_18.out 1
 go_wp2_with fail
 go_at_call 15
 refine (laws_markTree.marks k (fun k_=>w10.heap.size≤k_∧k_<w11.heap.size) (.slice Ax T1.length cx) T1 n1 1 m1 M1 V w18 HB18.out HX18.out hlT hM1).mono ?_;rintro e w19 ⟨rfl,-,hB_,hK_⟩;have HB19:=zh hB_;have H6_19:=zh (blk_kept H6_18.out hK_ (fun hk=>absurd B6L.out (Nat.not_lt.2 hk.1)));have H9_19:=zh (blk_kept H9_18.out hK_ (fun hk=>absurd (Nat.lt_of_lt_of_le hk.2 (Nat.le_trans L11_12.out B9G.out)) (Nat.lt_irrefl _)));have HW19:=zh (Kd.F_kept HW18.out hK_ (fun k hk hp=>absurd hk.1 (Nat.not_lt.2 hp.1)));have HG19:=zh (Kd.S_kept HG18.out hK_ (fun k hk hp=>absurd (Nat.lt_of_lt_of_le hp.2 L11_12.out) (Nat.not_lt.2 hk.1)));clear hB_ hK_ k0 k1 HB18 H6_18 H8_18 H9_18 HW18 HX18 HG18;have k0:=zz H9_19.out 0;have k1:=zz H9_19.out 1;have k2:=zz H6_19.out 0;have k3:=zz H6_19.out 1
 go_wp2_with fail
 go_at_call 14
 refine (F05.calls k Ag cg Gl ng Aw cw Wl nw true w19 (Kd.S_reads' HG19.out).2.2 (Kd.S_reads' HG19.out).2.1 (Kd.F_now HW19.out) HLw.out hq1).mono ?_;rintro e w20 ⟨rfl,hb_⟩;have H6_20:=zh (zD H6_19.out hb_);have H9_20:=zh (zD H9_19.out hb_);have HW20:=zh (Kd.F_below HW19.out hb_);have HG20:=zh (Kd.S_below HG19.out hb_);have HB20:=zh (zC HB19.out hb_);clear H6_19 H9_19 HW19 HG19 HB19 hb_ k0 k1 k2 k3;have k0:=zz H9_20.out 0;have k1:=zz H9_20.out 1
 go_wp2_with fail
 go_at_call 15
 refine (laws_markTree.marks k (fun k_=>w12.heap.size≤k_∧k_≠b9) (.slice Ag Gl.length cg) Gl ng 1 q M2 V w20 HB20.out HG20.out hlG hM2).mono ?_;rintro e w21 ⟨rfl,hS_,hB_,hK_⟩;have HB21:=zh hB_;have H6_21:=zh (blk_kept H6_20.out hK_ (fun hk=>absurd B6G.out (Nat.not_lt.2 hk.1)));have H9_21:=zh (blk_kept H9_20.out hK_ (fun hk=>hk.2 rfl));have HW21:=zh (Kd.F_kept HW20.out hK_ (fun k hk hp=>absurd (Nat.lt_of_lt_of_le hk.1 L10_12.out) (Nat.not_lt.2 hp.1)));have HlM : Aside0 (Gl.length=M2.length):=⟨(Kd.S_reads' hS_).1⟩;have HG21:=zh hS_;clear hS_ hB_ hK_ k0 k1 HB20 H6_20 H9_20 HW20 HG20;have k0:=zz H9_21.out 0;have k1:=zz H9_21.out 1
 go_wp2_with fail
 go_at_call 24
 have hh_:=F0c.calls k Ag cg M2 ng 1 q w21 (Kd.S_reads' HG21.out).2.2 (by rw [← HlM.out];exact (Kd.S_reads' HG21.out).2.1) hq;rw [← HlM.out] at hh_;refine hh_.mono ?_;clear hh_;rintro e w22 ⟨rfl,hb_⟩;have H6_22:=zh (zD H6_21.out hb_);have H9_22:=zh (zD H9_21.out hb_);have HW22:=zh (Kd.F_below HW21.out hb_);have HG22:=zh (Kd.S_below HG21.out hb_);have HB22:=zh (zC HB21.out hb_);clear H6_21 H9_21 HW21 HG21 HB21 hb_ k0 k1;have qq : (q == q)=true:=beq_self_eq_true _
 go_wp2_with fail
 have HC22 : Aside0 (∀ W1,Below w22.heap.size w22 W1→(W1.cell? ⟨g0,0,none⟩=some (.slice A0_0 l0_0.length c0_0)∧W1.cell? ⟨g0,1,none⟩=some (.int .i64 a0_1)∧W1.cell? ⟨g1,0,none⟩=some (.string a1_0)∧W1.cell? ⟨g1,1,none⟩=some (.int .i64 a1_1))):=⟨fun W1 hb=>HCE.out W1 (zC HB22.out hb)⟩;have hbd : Below w22.heap.size w22 w22.drew:=zc (Below.refl _ _);refine start_ (n:=11) (S:=fun w' => w'.cell? ⟨g0,0,none⟩=some (.slice A0_0 l0_0.length c0_0)∧w'.cell? ⟨g0,1,none⟩=some (.int .i64 a0_1)∧w'.cell? ⟨g1,0,none⟩=some (.string a1_0)∧w'.cell? ⟨g1,1,none⟩=some (.int .i64 a1_1)) (ds:=[9]) (bm_ 0 11) jA rfl rfl ⟨(HC22.out _ hbd).1,(HC22.out _ hbd).2.1,(HC22.out _ hbd).2.2.1,(HC22.out _ hbd).2.2.2⟩ (fun hHeld=>?_);generalize w22.drew=wd at hbd hHeld ⊢;refine take_ (i:=0) (N:=some 85) (v:=?_) (a':=?_) (bm_ 1 11) rfl rfl jA (fun _ _ _ h=>h) (Or.inl ⟨by rfl,?_⟩) hHeld ?_ ?_;rotate_left
 ·
  rintro w' ⟨s0,s1,s2,s3⟩
  go_simp
  with_reducible rfl
 rotate_left
 exact jc
 refine take_ (i:=2) (N:=some 87) (v:=?_) (a':=?_) #[true,false,true,false,false,false,false,false,false,false,false] rfl rfl jA (fun _ _ _ h=>h) (Or.inl ⟨by rfl,?_⟩) hHeld ?_ ?_;rotate_left
 ·
  rintro w' ⟨s0,s1,s2,s3⟩
  go_simp
  with_reducible rfl
 rotate_left
 exact jc
 refine join_ (σ:=Nat×(Option Addr×Nat)×(Option Addr×Nat)) 2 (bm_ 9 11) (fun s => [(14,.pointer (some ⟨s.1,0,none⟩)),(86,.agg #[.slice s.2.2.1 T1.length s.2.2.2,.int .i64 n1]),(88,.agg #[.string E1,.int .i64 i1]),(89,.tuple #[.agg #[.slice s.2.1.1 Gl.length s.2.1.2,.int .i64 ng],.int .i64 d0]),(84,.tuple #[.agg #[.slice s.2.1.1 Gl.length s.2.1.2,.int .i64 ng],.int .i64 d0]),(90,.agg #[.slice s.2.1.1 Gl.length s.2.1.2,.int .i64 ng]),(91,.int .i64 d0)]) (fun s w' => w'.heap[s.1]? = some (.cells #[.slice none 0 0,.int .i64 0] 35 (0,0))∧w22.heap.size≤s.1∧Kd.S k67 67 w' w22.heap.size (fun _=>True) (.slice s.2.1.1 Gl.length s.2.1.2) Gl∧Below w22.heap.size w22 w') ?_ ?_;rotate_left
 ·
  intro hCont
  refine two_ (i:=1) (j:=8) (Ni:=some 86) (Nj:=some 14) (bm_ 3 11) #[true,false,true,false,false,false,false,false,true,false,false] rfl rfl rfl rfl jA jC jC (fun K hK=>?_) (fun K hK=>?_)
  ·
   skip
   refine goes_ Try.func9 jA rfl #[.agg #[.slice A0_0 l0_0.length c0_0,.int .i64 a0_1]] (by rfl) rfl rfl jL ?_
   with_reducible refine (F06.calls k A0_0 c0_0 l0_0 a0_1 T1 n1 _ (HCX.out _ (zC HB22.out hbd)) hc0_0 hT).mono ?_
   rintro e w_1 ⟨v_1,rfl,hS_1,hb_1⟩;refine ⟨_,rfl,?_⟩;obtain ⟨At,ct,rfl⟩:=Kd.S_slice hS_1;have hbx1:=zC hbd hb_1;refine hK.out _ _ ⟨(HC22.out _ hbx1).1,(HC22.out _ hbx1).2.1,(HC22.out _ hbx1).2.2.1,(HC22.out _ hbx1).2.2.2⟩ (fun hHeld=>?_);clear hK K;refine norm_ (a':=?_) ?_ ?_;rotate_left
   ·
    show Act.put _ (some 86) _=_
    simp only [Act.put,zi,zj,zk,zG,zH]
    rfl
   refine two_ (i:=3) (j:=8) (Ni:=some 88) (Nj:=some 14) (bm_ 4 11) #[true,true,true,false,false,false,false,false,true,false,false] rfl rfl rfl rfl jA jC jC (fun K hK=>?_) (fun K hK=>?_)
   ·
    skip
    refine goes_ Try.func22 jA rfl #[.agg #[.string a1_0,.int .i64 a1_1]] (by rfl) rfl rfl jL ?_
    with_reducible refine (F5.calls a1_0 a1_1 E1 i1 _ hE).mono ?_
    rintro e w_3 ⟨rfl,hb_3⟩;refine ⟨_,rfl,?_⟩;have hbx3:=zC hbx1 hb_3;refine hK.out _ _ ⟨(HC22.out _ hbx3).1,(HC22.out _ hbx3).2.1,(HC22.out _ hbx3).2.2.1,(HC22.out _ hbx3).2.2.2⟩ (fun hHeld=>?_);clear hK K;refine norm_ (a':=?_) ?_ ?_;rotate_left
    ·
     show Act.put _ (some 88) _=_
     simp only [Act.put,zi,zj,zk,zG,zH]
     rfl
    refine two_ (i:=4) (j:=8) (Ni:=some 89) (Nj:=some 14) (bm_ 5 11) #[true,true,true,true,false,false,false,false,true,false,false] rfl rfl rfl rfl jA jC jC (fun K hK=>?_) (fun K hK=>?_)
    ·
     skip
     refine goes_ Try.func23 jA rfl #[.agg #[.slice At T1.length ct,.int .i64 n1],.agg #[.string E1,.int .i64 i1]] (by rfl) rfl rfl jL ?_
     with_reducible refine (F04.calls k At ct T1 n1 E1 i1 Gl ng d0 _ (Kd.S_reads' ((Kd.S_below hS_1 hb_3))).2.2 (Kd.S_reads' hS_1).2.1 hG).mono ?_
     rintro e w_4 ⟨v_4,rfl,hS_4,hb_4⟩;refine ⟨_,rfl,?_⟩;obtain ⟨A_,c_,rfl⟩:=Kd.S_slice hS_4;have hbx4:=zC hbx3 hb_4;refine hK.out _ _ ⟨(HC22.out _ hbx4).1,(HC22.out _ hbx4).2.1,(HC22.out _ hbx4).2.2.1,(HC22.out _ hbx4).2.2.2⟩ (fun hHeld=>?_);clear hK K;refine norm_ (a':=?_) ?_ ?_;rotate_left
     ·
      show Act.put _ (some 89) _=_
      simp only [Act.put,zi,zj,zk,zG,zH]
      rfl
     refine pure_ (i:=5) (N:=some 84) (v:=?_) (a':=?_) (bm_ 6 11) rfl rfl jA (fun _ _ _ h=>h) (Or.inl ⟨by rfl,?_⟩) ?_ ?_;rotate_left;exact jb;rotate_left;exact jc
     refine pure_ (i:=6) (N:=some 90) (v:=?_) (a':=?_) (bm_ 7 11) rfl rfl jA (fun _ _ _ h=>h) (Or.inl ⟨by rfl,?_⟩) ?_ ?_;rotate_left;exact jb;rotate_left;exact jc
     refine pure_ (i:=7) (N:=some 91) (v:=?_) (a':=?_) (bm_ 8 11) rfl rfl jA (fun _ _ _ h=>h) (Or.inl ⟨by rfl,?_⟩) ?_ ?_;rotate_left;exact jb;rotate_left;exact jc
     refine one_ (i:=8) (N:=some 14) (bm_ 9 11) rfl rfl jA jC (fun K hK=>?_);refine value_ (w1:=?_) (v:=?_) (by rfl) rfl ?_ ?_;rotate_left 2
     ·
      go_simp
      constructor
      ·
       rfl
      rfl
     refine hK.out _ _ ⟨(HC22.out _ (za hbx4 _)).1,(HC22.out _ (za hbx4 _)).2.1,(HC22.out _ (za hbx4 _)).2.2.1,(HC22.out _ (za hbx4 _)).2.2.2⟩ (fun hHeld=>?_);clear hK K;refine norm_ (a':=?_) ?_ ?_;rotate_left
     ·
      show Act.put _ (some 14) _=_
      simp only [Act.put,zi,zj,zk,zG,zH]
      rfl
     exact norm_ jV (hCont (w_4.heap.size,(A_,c_),(At,ct)) _ ⟨(blk_new w_4 _),hbx4.size,(Kd.S_alloc (Kd.S_lower hS_4 hbx3.size) _),(za hbx4 _)⟩)
    skip
    refine value_ (w1:=?_) (v:=?_) (by rfl) rfl ?_ ?_;rotate_left 2
    ·
     go_simp
     constructor
     ·
      rfl
     rfl
    refine hK.out _ _ ⟨(HC22.out _ (za hbx3 _)).1,(HC22.out _ (za hbx3 _)).2.1,(HC22.out _ (za hbx3 _)).2.2.1,(HC22.out _ (za hbx3 _)).2.2.2⟩ (fun hHeld=>?_);clear hK K;refine norm_ (a':=?_) ?_ ?_;rotate_left
    ·
     show Act.put _ (some 14) _=_
     simp only [Act.put,zi,zj,zk,zG,zH]
     rfl
    refine one_ (i:=4) (N:=some 89) #[true,true,true,true,true,false,false,false,true,false,false] rfl rfl jA jC (fun K hK=>?_);refine goes_ Try.func23 jA rfl #[.agg #[.slice At T1.length ct,.int .i64 n1],.agg #[.string E1,.int .i64 i1]] (by rfl) rfl rfl jL ?_
    with_reducible refine (F04.calls k At ct T1 n1 E1 i1 Gl ng d0 _ (Kd.S_reads' ((Kd.S_alloc (Kd.S_below hS_1 hb_3) _))).2.2 (Kd.S_reads' hS_1).2.1 hG).mono ?_
    rintro e w_4 ⟨v_4,rfl,hS_4,hb_4⟩;refine ⟨_,rfl,?_⟩;obtain ⟨A_,c_,rfl⟩:=Kd.S_slice hS_4;have hbx4:=zC (za hbx3 _) hb_4;refine hK.out _ _ ⟨(HC22.out _ hbx4).1,(HC22.out _ hbx4).2.1,(HC22.out _ hbx4).2.2.1,(HC22.out _ hbx4).2.2.2⟩ (fun hHeld=>?_);clear hK K;refine norm_ (a':=?_) ?_ ?_;rotate_left
    ·
     show Act.put _ (some 89) _=_
     simp only [Act.put,zi,zj,zk,zG,zH]
     rfl
    refine pure_ (i:=5) (N:=some 84) (v:=?_) (a':=?_) #[true,true,true,true,true,true,false,false,true,false,false] rfl rfl jA (fun _ _ _ h=>h) (Or.inl ⟨by rfl,?_⟩) ?_ ?_;rotate_left;exact jb;rotate_left;exact jc
    refine pure_ (i:=6) (N:=some 90) (v:=?_) (a':=?_) #[true,true,true,true,true,true,true,false,true,false,false] rfl rfl jA (fun _ _ _ h=>h) (Or.inl ⟨by rfl,?_⟩) ?_ ?_;rotate_left;exact jb;rotate_left;exact jc
    refine pure_ (i:=7) (N:=some 91) (v:=?_) (a':=?_) (bm_ 9 11) rfl rfl jA (fun _ _ _ h=>h) (Or.inl ⟨by rfl,?_⟩) ?_ ?_;rotate_left;exact jb;rotate_left;exact jc
    exact norm_ jV (hCont (w_3.heap.size,(A_,c_),(At,ct)) _ ⟨(zD (blk_new w_3 _) hb_4),hbx3.size,(Kd.S_lower hS_4 (za hbx3 _).size),hbx4⟩)
   skip
   refine value_ (w1:=?_) (v:=?_) (by rfl) rfl ?_ ?_;rotate_left 2
   ·
    go_simp
    constructor
    ·
     rfl
    rfl
   refine hK.out _ _ ⟨(HC22.out _ (za hbx1 _)).1,(HC22.out _ (za hbx1 _)).2.1,(HC22.out _ (za hbx1 _)).2.2.1,(HC22.out _ (za hbx1 _)).2.2.2⟩ (fun hHeld=>?_);clear hK K;refine norm_ (a':=?_) ?_ ?_;rotate_left
   ·
    show Act.put _ (some 14) _=_
    simp only [Act.put,zi,zj,zk,zG,zH]
    rfl
   refine one_ (i:=3) (N:=some 88) #[true,true,true,true,false,false,false,false,true,false,false] rfl rfl jA jC (fun K hK=>?_);refine goes_ Try.func22 jA rfl #[.agg #[.string a1_0,.int .i64 a1_1]] (by rfl) rfl rfl jL ?_
   with_reducible refine (F5.calls a1_0 a1_1 E1 i1 _ hE).mono ?_
   rintro e w_3 ⟨rfl,hb_3⟩;refine ⟨_,rfl,?_⟩;have hbx3:=zC (za hbx1 _) hb_3;refine hK.out _ _ ⟨(HC22.out _ hbx3).1,(HC22.out _ hbx3).2.1,(HC22.out _ hbx3).2.2.1,(HC22.out _ hbx3).2.2.2⟩ (fun hHeld=>?_);clear hK K;refine norm_ (a':=?_) ?_ ?_;rotate_left
   ·
    show Act.put _ (some 88) _=_
    simp only [Act.put,zi,zj,zk,zG,zH]
    rfl
   refine one_ (i:=4) (N:=some 89) #[true,true,true,true,true,false,false,false,true,false,false] rfl rfl jA jC (fun K hK=>?_);refine goes_ Try.func23 jA rfl #[.agg #[.slice At T1.length ct,.int .i64 n1],.agg #[.string E1,.int .i64 i1]] (by rfl) rfl rfl jL ?_
   with_reducible refine (F04.calls k At ct T1 n1 E1 i1 Gl ng d0 _ (Kd.S_reads' ((Kd.S_below (Kd.S_alloc hS_1 _) hb_3))).2.2 (Kd.S_reads' hS_1).2.1 hG).mono ?_
   rintro e w_4 ⟨v_4,rfl,hS_4,hb_4⟩;refine ⟨_,rfl,?_⟩;obtain ⟨A_,c_,rfl⟩:=Kd.S_slice hS_4;have hbx4:=zC hbx3 hb_4;refine hK.out _ _ ⟨(HC22.out _ hbx4).1,(HC22.out _ hbx4).2.1,(HC22.out _ hbx4).2.2.1,(HC22.out _ hbx4).2.2.2⟩ (fun hHeld=>?_);clear hK K;refine norm_ (a':=?_) ?_ ?_;rotate_left
   ·
    show Act.put _ (some 89) _=_
    simp only [Act.put,zi,zj,zk,zG,zH]
    rfl
   refine pure_ (i:=5) (N:=some 84) (v:=?_) (a':=?_) #[true,true,true,true,true,true,false,false,true,false,false] rfl rfl jA (fun _ _ _ h=>h) (Or.inl ⟨by rfl,?_⟩) ?_ ?_;rotate_left;exact jb;rotate_left;exact jc
   refine pure_ (i:=6) (N:=some 90) (v:=?_) (a':=?_) #[true,true,true,true,true,true,true,false,true,false,false] rfl rfl jA (fun _ _ _ h=>h) (Or.inl ⟨by rfl,?_⟩) ?_ ?_;rotate_left;exact jb;rotate_left;exact jc
   refine pure_ (i:=7) (N:=some 91) (v:=?_) (a':=?_) (bm_ 9 11) rfl rfl jA (fun _ _ _ h=>h) (Or.inl ⟨by rfl,?_⟩) ?_ ?_;rotate_left;exact jb;rotate_left;exact jc
   exact norm_ jV (hCont (w_1.heap.size,(A_,c_),(At,ct)) _ ⟨(zD (zD (blk_new w_1 _) hb_3) hb_4),hbx1.size,(Kd.S_lower hS_4 hbx3.size),hbx4⟩)
  skip
  refine value_ (w1:=?_) (v:=?_) (by rfl) rfl ?_ ?_;rotate_left 2
  ·
   go_simp
   constructor
   ·
    rfl
   rfl
  refine hK.out _ _ ⟨(HC22.out _ (za hbd _)).1,(HC22.out _ (za hbd _)).2.1,(HC22.out _ (za hbd _)).2.2.1,(HC22.out _ (za hbd _)).2.2.2⟩ (fun hHeld=>?_);clear hK K;refine norm_ (a':=?_) ?_ ?_;rotate_left
  ·
   show Act.put _ (some 14) _=_
   simp only [Act.put,zi,zj,zk,zG,zH]
   rfl
  refine one_ (i:=1) (N:=some 86) #[true,true,true,false,false,false,false,false,true,false,false] rfl rfl jA jC (fun K hK=>?_);refine goes_ Try.func9 jA rfl #[.agg #[.slice A0_0 l0_0.length c0_0,.int .i64 a0_1]] (by rfl) rfl rfl jL ?_
  with_reducible refine (F06.calls k A0_0 c0_0 l0_0 a0_1 T1 n1 _ (HCX.out _ (zC HB22.out (za hbd _))) hc0_0 hT).mono ?_
  rintro e w_1 ⟨v_1,rfl,hS_1,hb_1⟩;refine ⟨_,rfl,?_⟩;obtain ⟨At,ct,rfl⟩:=Kd.S_slice hS_1;have hbx1:=zC (za hbd _) hb_1;refine hK.out _ _ ⟨(HC22.out _ hbx1).1,(HC22.out _ hbx1).2.1,(HC22.out _ hbx1).2.2.1,(HC22.out _ hbx1).2.2.2⟩ (fun hHeld=>?_);clear hK K;refine norm_ (a':=?_) ?_ ?_;rotate_left
  ·
   show Act.put _ (some 86) _=_
   simp only [Act.put,zi,zj,zk,zG,zH]
   rfl
  refine one_ (i:=3) (N:=some 88) #[true,true,true,true,false,false,false,false,true,false,false] rfl rfl jA jC (fun K hK=>?_);refine goes_ Try.func22 jA rfl #[.agg #[.string a1_0,.int .i64 a1_1]] (by rfl) rfl rfl jL ?_
  with_reducible refine (F5.calls a1_0 a1_1 E1 i1 _ hE).mono ?_
  rintro e w_3 ⟨rfl,hb_3⟩;refine ⟨_,rfl,?_⟩;have hbx3:=zC hbx1 hb_3;refine hK.out _ _ ⟨(HC22.out _ hbx3).1,(HC22.out _ hbx3).2.1,(HC22.out _ hbx3).2.2.1,(HC22.out _ hbx3).2.2.2⟩ (fun hHeld=>?_);clear hK K;refine norm_ (a':=?_) ?_ ?_;rotate_left
  ·
   show Act.put _ (some 88) _=_
   simp only [Act.put,zi,zj,zk,zG,zH]
   rfl
  refine one_ (i:=4) (N:=some 89) #[true,true,true,true,true,false,false,false,true,false,false] rfl rfl jA jC (fun K hK=>?_);refine goes_ Try.func23 jA rfl #[.agg #[.slice At T1.length ct,.int .i64 n1],.agg #[.string E1,.int .i64 i1]] (by rfl) rfl rfl jL ?_
  with_reducible refine (F04.calls k At ct T1 n1 E1 i1 Gl ng d0 _ (Kd.S_reads' ((Kd.S_below hS_1 hb_3))).2.2 (Kd.S_reads' hS_1).2.1 hG).mono ?_
  rintro e w_4 ⟨v_4,rfl,hS_4,hb_4⟩;refine ⟨_,rfl,?_⟩;obtain ⟨A_,c_,rfl⟩:=Kd.S_slice hS_4;have hbx4:=zC hbx3 hb_4;refine hK.out _ _ ⟨(HC22.out _ hbx4).1,(HC22.out _ hbx4).2.1,(HC22.out _ hbx4).2.2.1,(HC22.out _ hbx4).2.2.2⟩ (fun hHeld=>?_);clear hK K;refine norm_ (a':=?_) ?_ ?_;rotate_left
  ·
   show Act.put _ (some 89) _=_
   simp only [Act.put,zi,zj,zk,zG,zH]
   rfl
  refine pure_ (i:=5) (N:=some 84) (v:=?_) (a':=?_) #[true,true,true,true,true,true,false,false,true,false,false] rfl rfl jA (fun _ _ _ h=>h) (Or.inl ⟨by rfl,?_⟩) ?_ ?_;rotate_left;exact jb;rotate_left;exact jc
  refine pure_ (i:=6) (N:=some 90) (v:=?_) (a':=?_) #[true,true,true,true,true,true,true,false,true,false,false] rfl rfl jA (fun _ _ _ h=>h) (Or.inl ⟨by rfl,?_⟩) ?_ ?_;rotate_left;exact jb;rotate_left;exact jc
  refine pure_ (i:=7) (N:=some 91) (v:=?_) (a':=?_) (bm_ 9 11) rfl rfl jA (fun _ _ _ h=>h) (Or.inl ⟨by rfl,?_⟩) ?_ ?_;rotate_left;exact jb;rotate_left;exact jc
  exact norm_ jV (hCont (wd.heap.size,(A_,c_),(At,ct)) _ ⟨(zD (zD (zD (blk_new wd _) hb_1) hb_3) hb_4),hbd.size,(Kd.S_lower hS_4 hbx3.size),hbx4⟩)
 rintro ⟨bb,⟨A_,c_⟩,s3⟩ wt ⟨hbox,hbb,hS_,hb_⟩;have q0:=zz hbox 0;have q1:=zz hbox 1;have f0:=zA hbox 0;have f1:=zA hbox 1;refine norm_ (a':=?_) ?_ ?_;rotate_left
 ·
  simp only [putAll,Act.put,zi,zj,zk]
  rfl
 refine last_ (i:=9) (N:=none) (bm_ 10 11) rfl rfl jA jC (fun K hK=>?_);refine skip_ (w1:=?_) (by rfl) rfl ?_ ?_;rotate_left
 ·
  go_simp
  rfl
 refine hK.out _ _ ?_;clear hK K;refine pure_ (i:=10) (N:=some 15) (v:=?_) (a':=?_) (bm_ 11 11) rfl rfl jA (fun _ _ _ h=>h) (Or.inl ⟨by rfl,?_⟩) ?_ ?_;rotate_left;exact jb;rotate_left;exact jc
 refine done_ jA ?_;have hbx_ : ((wt.setCell ⟨bb,0,none⟩ (.slice A_ Gl.length c_)).setCell ⟨bb,1,none⟩ (.int .i64 ng)).heap[bb]? = some (.cells #[.slice A_ Gl.length c_,.int .i64 ng] 35 (0,0)):=blk_set (blk_set hbox 0 (.slice A_ Gl.length c_)) 1 (.int .i64 ng);have hS2_:=Kd.S_types hS_ hbox jC;have hS3_:=Kd.S_far (p:=⟨bb,1,none⟩) (Kd.S_far (p:=⟨bb,0,none⟩) hS2_ (fun _ hk=>hk.2) (.slice A_ Gl.length c_)) (fun _ hk=>hk.2) (.int .i64 ng);have hsz_ : ((wt.setCell ⟨bb,0,none⟩ (.slice A_ Gl.length c_)).setCell ⟨bb,1,none⟩ (.int .i64 ng)).heap.size=wt.heap.size:=by simp
 have HH30:=zh hS3_;have HX_30:=zh hbx_;have hb30 : Below w22.heap.size w22 ((wt.setCell ⟨bb,0,none⟩ (.slice A_ Gl.length c_)).setCell ⟨bb,1,none⟩ (.int .i64 ng)):=zd (zd hb_ hbb) hbb;clear hbd hbx_ hS2_ hS3_ hS_ hb_ hbox hbb q0 q1 f0 f1 hsz_ HC22;generalize hw30 : (wt.setCell ⟨bb,0,none⟩ (.slice A_ Gl.length c_)).setCell ⟨bb,1,none⟩ (.int .i64 ng)=w30 at *;clear hw30;have H6_30:=zh (zD H6_22.out hb30);have H9_30:=zh (zD H9_22.out hb30);have HW30:=zh (Kd.F_below HW22.out hb30);have HG30:=zh (Kd.S_below HG22.out hb30);have HB30:=zh (zC HB22.out hb30);clear H6_22 H9_22 HW22 HG22 HB22 hb30;have k0:=zz HX_30.out 0;have k1:=zz HX_30.out 1;have k2:=zz H6_30.out 0;have k3:=zz H6_30.out 1
 go_wp2_with fail
 go_at_call 14
 refine (F05.calls k A_ c_ Gl ng Aw cw Wl nw true w30 (Kd.S_reads' HH30.out).2.2 (Kd.S_reads' HH30.out).2.1 (Kd.F_now HW30.out) HLw.out hq1).mono ?_;rintro e w31 ⟨rfl,hb_⟩;clear HH30 HX_30;have H6_31:=zh (zD H6_30.out hb_);have H9_31:=zh (zD H9_30.out hb_);have HW31:=zh (Kd.F_below HW30.out hb_);have HG31:=zh (Kd.S_below HG30.out hb_);have HB31:=zh (zC HB30.out hb_);clear H6_30 H9_30 HW30 HG30 HB30 hb_ k0 k1 k2 k3;have k0:=zz H9_31.out 0;have k1:=zz H9_31.out 1
 go_wp2_with fail
 go_at_call 24
 have hh_:=F0c.calls k Ag cg M2 ng 1 q w31 (Kd.S_reads' HG31.out).2.2 (by rw [← HlM.out];exact (Kd.S_reads' HG31.out).2.1) hq;rw [← HlM.out] at hh_;refine hh_.mono ?_;clear hh_;rintro e w32 ⟨rfl,hb_⟩;have HB32:=zh (zC HBV.out (zC HB31.out hb_));clear hb_ k0 k1 H6_31 H9_31 HW31 HG31
 go_wp2_with fail
 go_ret
 exact ⟨rfl,HB32.out⟩

end Go.Proofs.Ytamikhmpfmgofaa.Q
end
section
namespace Go.Proofs.YtamikhmpfmgofaaW.PrintOpen
open Go.RowKit Go.ChangeShapes Go.WideShapes Go.ChangeAt Go.Proofs.YtamikhmpfmgofaaW.PrintWords
def Opens {α : Type} (P : Program) (d : Kd α) (t : TypeId) (good : α→Prop) : Prop :=
 ∀ (H : Type) (enc : TypeId×Value→H) (w : World) (base : Nat) (spare : Nat→Bool) (held : Bool) (fuel : Nat) (cs : List Value) (x : DataW H×List MemPlace),
  DataW.trod enc P w base spare held fuel t cs=some x → ∃ a,d.K w a cs∧good a
variable {P : Program}
theorem opens_int {t : TypeId} {k : IntKind} (ht : P.underlying t=some (.int k)) : Opens P (Kd.int k) t (fun n=>(Lit.int k n).wf=true):=by
 intro H enc w base spare held fuel cs x h;obtain ⟨n,hcs,_,hw⟩:=DataW.trod_int ht h;exact ⟨n,hcs,hw⟩
theorem opens_string {t : TypeId} (ht : P.underlying t=some .string) : Opens P Kd.string t (fun s=>s.size≤9223372036854775807):=by
 intro H enc w base spare held fuel cs x h;obtain ⟨s,hcs,_,hs⟩:=DataW.trod_string ht h;exact ⟨s,hcs,by unfold maxLen at hs;exact hs⟩
theorem opens_slice {α : Type} {t e : TypeId} {d : Kd α} {g : α→Prop} (ht : P.underlying t=some (.slice e)) (hc : P.cellsOf e=d.sz) (he : Opens P d e g) :
  Opens P (Kd.slice e d) t (fun l=>l.length≤9223372036854775807 ∧ ∀ x ∈ l,g x):=by
 intro H enc w base spare held fuel cs x h;rcases Deep.open_slice ht h with ⟨rfl,_⟩|⟨a,len,cap,m,n,D,Pl,rfl,_,hl,hm,hmm,_,hx⟩
 ·
  exact ⟨[],⟨none,0,rfl,Nat.le_refl _,rfl,by simp,fun h0=>absurd h0 (by simp)⟩,by simp,by simp⟩
 have hlm : len≤m:=by rw [hmm];split <;> omega
 have hall : ∀ i : Fin len,∃ v : α×List Value,w.cells? base (a.add (i.1*P.cellsOf e)) (P.cellsOf e)=some v.2∧d.K w v.1 v.2∧g v.1:=fun i=>by
  obtain ⟨cs',h1,h2⟩:=hx i.1 (by have:=i.2;omega);obtain ⟨a',hk,hg⟩:=he H enc w base spare held n cs' _ h2;exact ⟨(a',cs'),h1,hk,hg⟩
 obtain ⟨V,hV⟩:=Classical.axiomOfChoice hall;have hmax : len≤9223372036854775807:=by unfold maxLen at hm;omega
 have hlen : (List.ofFn fun i=>(V i).1).length=len:=List.length_ofFn;refine ⟨List.ofFn fun i=>(V i).1,⟨some a,cap,by rw [hlen],by rw [hlen];exact hl,rfl,by rw [hlen];exact hmax,fun _=>⟨a,rfl,?_⟩⟩,by rw [hlen];exact hmax,?_⟩
 ·
  intro j p hj
  have hjl : j<len:=by
   have:=(List.getElem?_eq_some_iff.1 hj).1
   omega
  rw [List.getElem?_ofFn,dif_pos hjl] at hj;obtain rfl:=Option.some.inj hj;obtain ⟨h1,h2,_⟩:=hV ⟨j,hjl⟩;obtain ⟨_,hlen2,hcell⟩:=World.cells?_some h1;refine ⟨(V ⟨j,hjl⟩).2,by rw [← hc];exact hlen2,h2,fun q u hu=>?_⟩
  have hq : q<P.cellsOf e:=by
   have:=(List.getElem?_eq_some_iff.1 hu).1
   omega
  have h3:=hcell q hq;rw [Deep.add_add,hu,hc] at h3;exact h3
 intro x hx;obtain ⟨i,rfl⟩:=List.mem_ofFn.1 hx;exact (hV i).2.2
def OpensF {α : Type} (P : Program) (d : Kd α) (fs : List Field) (off : Nat) (good : α→Prop) : Prop :=
 ∀ (H : Type) (enc : TypeId×Value→H) (w : World) (base : Nat) (spare : Nat→Bool) (held : Bool) (fuel : Nat) (cs : List Value),off+d.sz≤cs.length →
  (∀ f ∈ fs,∃ x,DataW.trod enc P w base spare held fuel f.type ((cs.drop f.offset).take (P.cellsOf f.type))=some x) → ∃ a,d.K w a ((cs.drop off).take d.sz)∧good a
theorem opensF_one {α : Type} {d : Kd α} {f : Field} {off : Nat} {g : α→Prop} (ho : f.offset=off) (hc : P.cellsOf f.type=d.sz) (h : Opens P d f.type g) : OpensF P d [f] off g:=by
 intro H enc w base spare held fuel cs _ hf;obtain ⟨x,hx⟩:=hf f (by simp);obtain ⟨a,hk,hg⟩:=h H enc w base spare held fuel _ x hx;rw [ho,hc] at hk;exact ⟨a,hk,hg⟩
theorem opensF_cons {α β : Type} {d : Kd α} {d' : Kd β} {f : Field} {fs : List Field} {off : Nat} {g : α→Prop} {g' : β→Prop} (ho : f.offset=off) (hc : P.cellsOf f.type=d.sz) (h : Opens P d f.type g) (h' : OpensF P d' fs (off+d.sz) g') :
  OpensF P (Kd.pair d d') (f :: fs) off (fun x=>g x.1∧g' x.2):=by
 intro H enc w base spare held fuel cs hl hf;obtain ⟨x,hx⟩:=hf f (by simp);obtain ⟨a,hk,hg⟩:=h H enc w base spare held fuel _ x hx;have hl2 : off+(d.sz+d'.sz)≤cs.length:=hl;obtain ⟨b,hk',hg'⟩:=h' H enc w base spare held fuel cs (by omega) (fun f' hf' => hf f' (by simp [hf']));rw [ho,hc] at hk;refine ⟨(a,b),⟨_,_,?_,hk,hk'⟩,hg,hg'⟩;show (cs.drop off).take (d.sz+d'.sz)=_;rw [List.take_add,List.drop_drop]
theorem opens_struct {α β : Type} {t : TypeId} {fs : Array Field} {d : Kd α} {g : α→Prop} {f : β→α} (f' : α→β) (hf : ∀ a,f (f' a)=a) (ht : P.underlying t=some (.struct fs)) (hc : P.cellsOf t=d.sz) (h : OpensF P d fs.toList 0 g) :
  Opens P (Kd.iso d f) t (fun b=>g (f b)):=by
 intro H enc w base spare held fuel cs x hx;obtain ⟨xs,n,_,_,hl,hlen,hxs⟩:=DataW.trod_struct ht hx
 obtain ⟨a,hk,hg⟩:=h H enc w base spare held n cs (by omega) (fun y hy=>by
  obtain ⟨i,hi⟩:=List.mem_iff_getElem?.1 hy;have:=hxs i y (by simpa using hi)
  have hlt : i<xs.length:=by
   have:=(List.getElem?_eq_some_iff.1 hi).1;rw [hlen]
   simpa using this
  rw [List.getElem?_eq_getElem hlt] at this
  exact ⟨_,this⟩)
 rw [List.drop_zero,show d.sz=cs.length by omega,List.take_length] at hk;exact ⟨f' a,by show d.K w (f (f' a)) cs;rw [hf];exact hk,by show g (f (f' a));rw [hf];exact hg⟩
theorem arg_struct {α : Type} {d : Kd α} {t : TypeId} {fs : Array Field} {g : α→Prop} {H : Type} {enc : TypeId×Value→H} {w : World} {base b0 : Nat} {spare : Nat→Bool} {held : Bool} {r : Reach} {v : Value} {dd : DataW H} {p : List MemPlace}
  (ht : P.underlying t=some (.struct fs)) (h : Opens P d t g) (hv : Value.okWide P w r b0 t v) (hd : DataW.Trod enc P w base spare held t v dd p) : ∃ (a : α) (cs : List Value),v = .agg ⟨cs⟩∧d.K w a cs∧g a:=by
 obtain ⟨cs,rfl,_⟩:=okWide_struct ht hv;obtain ⟨fuel,hf⟩:=hd;obtain ⟨a,hk,hg⟩:=h H enc w base spare held fuel _ _ hf;exact ⟨a,cs.toList,rfl,hk,hg⟩
end Go.Proofs.YtamikhmpfmgofaaW.PrintOpen
end
section
namespace Go.Proofs.Ytamikhmpfmgofaa.Q
open Go.RowKit Go.Proofs.YtamikhmpfmgofaaW.PrintWords Go.Proofs.YtamikhmpfmgofaaW.PrintLast Go.Proofs.YtamikhmpfmgofaaW.PrintMore Go.Proofs.YtamikhmpfmgofaaW.PrintOpen
def good47 (x_ : S47) : Prop:=(x_.f0.size≤9223372036854775807)∧(((Lit.int .i64 x_.f1).wf=true))
theorem opens47 : Opens Try.prog k47 47 good47 :=
 opens_struct (f:=(fun x : S47=>(x.f0,x.f1))) (fun ⟨x0,x1⟩=>⟨x0,x1⟩) (fun _=>rfl) Try.underlying47 (by kernel_rfl) (opensF_cons rfl (by kernel_rfl) (opens_string Try.underlying9) (opensF_one rfl (by kernel_rfl) (opens_int Try.underlying3)))
def good79 (x_ : S79) : Prop:=((Lit.int .i64 x_.f0).wf=true)∧(((x_.f1.length≤9223372036854775807 ∧ ∀ y0_ ∈ x_.f1,good47 y0_)))
theorem opens79 : Opens Try.prog k79 79 good79 :=
 opens_struct (f:=(fun x : S79=>(x.f0,x.f1))) (fun ⟨x0,x1⟩=>⟨x0,x1⟩) (fun _=>rfl) Try.underlying79 (by kernel_rfl) (opensF_cons rfl (by kernel_rfl) (opens_int Try.underlying3) (opensF_one rfl (by kernel_rfl) (opens_slice Try.underlying77 (by kernel_rfl) opens47)))
def good24 (x_ : S24) : Prop:=((x_.f0.length≤9223372036854775807 ∧ ∀ y0_ ∈ x_.f0,good79 y0_))∧(((Lit.int .i64 x_.f1).wf=true))
theorem opens24 : Opens Try.prog k24 24 good24 :=
 opens_struct (f:=(fun x : S24=>(x.f0,x.f1))) (fun ⟨x0,x1⟩=>⟨x0,x1⟩) (fun _=>rfl) Try.underlying24 (by kernel_rfl) (opensF_cons rfl (by kernel_rfl) (opens_slice Try.underlying22 (by kernel_rfl) opens79) (opensF_one rfl (by kernel_rfl) (opens_int Try.underlying3)))
def good26 (x_ : S26) : Prop:=(x_.f0.size≤9223372036854775807)∧((x_.f1.size≤9223372036854775807)∧((True)))
end Go.Proofs.Ytamikhmpfmgofaa.Q
end
section
namespace Go.Proofs.Ytamikhmpfmgofaa.Q
def F0b.Pure : Prop:=∀ (x0 : S24) (x1 : S47),(good24 x0)→(good47 x1) → ∃ k,F0b.f k x0.f0 x0.f1 x1.f0 x1.f1=some true
end Go.Proofs.Ytamikhmpfmgofaa.Q
end
section
namespace Go.Proofs.YtamikhmpfmgofaaW.Pl
open Go Go.RowKit Go.Proofs.YtamikhmpfmgofaaW.PrintWords Go.Proofs.YtamikhmpfmgofaaW.PrintMore
theorem w64 {i : Int} (h0 : -9223372036854775808≤i) (h1 : i≤9223372036854775807) : wrap64 i=i:=by unfold wrap64;omega
theorem fuel {k d : Nat} (h : d<k) : ∃ m,k=m+1∧d≤m:=⟨k - 1,by omega,by omega⟩
theorem rd_at (xs : List Int) (i : Nat) (h : i<xs.length) : rd xs (i : Int)=xs[i]:=by
 unfold rd;simp [List.getD,h]
theorem getD_at {α : Type} (d : α) (xs : List α) (i : Nat) (h : i<xs.length) : xs.getD (i : Int).toNat d=xs[i]:=by
 simp [List.getD,h]
theorem drop_at {α : Type} (xs : List α) (i : Nat) (h : i<xs.length) : xs.drop i=xs[i] :: xs.drop (i+1):=List.drop_eq_getElem_cons h
theorem ba_toList (a : ByteArray) : a.toList=a.data.toList:=ByteArray.toList_eq a
theorem ba_ext {a b : ByteArray} (h : a.toList=b.toList) : a=b:=by
 rw [ba_toList,ba_toList] at h
 cases a;cases b
 simp at h;rw [h]
def all2 {α β : Type} (e : α→β→Bool) : List α→List β→Bool
 | [],_=>true
 | _ :: _,[]=>true
 | x :: xs,y :: ys=>e x y && all2 e xs ys
def first {α : Type} (p : α→Bool) : List α→Nat→Int
 | [],_ => -1
 | x :: xs,i=>if p x=true then i else first p xs (i+1)
theorem first_any {α : Type} (p : α→Bool) : ∀ (xs : List α) (i : Nat),decide (first p xs i ≥ 0)=xs.any p
 | [],i=>rfl
 | x :: xs,i=>by
  by_cases h : p x=true
  ·
   simp [first,h]
  simp only [first,if_neg h,List.any_cons,first_any p xs (i+1)];simp [h]
def total {α : Type} (s : α→Nat) : List α→Nat
 | []=>0
 | x :: xs=>s x+total s xs
theorem total_le {α : Type} (s : α→Nat) : ∀ (xs : List α) (x : α),x ∈ xs→s x≤total s xs
 | _ :: xs,x,h=>by
  rcases List.mem_cons.1 h with rfl|h
  ·
   simp [total]
  have:=total_le s xs x h;simp [total];omega
def less {α : Type} (s : α→Nat) : List α→Int→Int
 | [],l=>l
 | x :: xs,l=>if l - s x<0 then -1 else less s xs (l - s x)
theorem less_is {α : Type} (s : α→Nat) : ∀ (xs : List α) (l : Int),0≤l→less s xs l=if l<total s xs then -1 else l - total s xs
 | [],l,h=>by simp [less,total];omega
 | x :: xs,l,h=>by
  have ht : ((total s (x :: xs) : Nat) : Int)=s x+total s xs:=by simp [total]
  rw [ht];simp only [less]
  by_cases h1 : l - s x<0
  ·
   rw [if_pos h1,if_pos (by omega)]
  rw [if_neg h1,less_is s xs _ (by omega)]
  by_cases h2 : l<s x+total s xs
  ·
   rw [if_pos (by omega),if_pos (by omega)]
  rw [if_neg (by omega),if_neg (by omega)];omega
def Eve {α : Type} (g : Nat→Option α) (v : α) : Prop:=∃ K,∀ k,K≤k→g k=some v
theorem Eve.one {α : Type} {v : α} : Eve (fun _=>some v) v:=⟨0,fun _ _=>rfl⟩
theorem Eve.all {α : Type} {g : Nat→Option α} {v : α} (h : ∀ k,g k=some v) : Eve g v:=⟨0,fun k _=>h k⟩
theorem Eve.of {α : Type} {g : Nat→Option α} {v : α} {n : Nat} (h : ∀ k,n<k→g k=some v) : Eve g v:=⟨n+1,fun k hk=>h k (by omega)⟩
theorem Eve.succ {α : Type} {g : Nat→Option α} {v : α} (h : Eve (fun k=>g (k+1)) v) : Eve g v:=by
 obtain ⟨K,h⟩:=h;refine ⟨K+1,fun k hk=>?_⟩;obtain ⟨k,rfl⟩ : ∃ m,k=m+1:=⟨k - 1,by omega⟩;exact h k (by omega)
theorem Eve.bind {α β : Type} {g : Nat→Option α} {f : Nat→α→Option β} {v : α} {u : β} (h : Eve g v) (h2 : Eve (fun k=>f k v) u) : Eve (fun k=>(g k).bind (f k)) u:=by
 obtain ⟨K,h⟩:=h;obtain ⟨K2,h2⟩:=h2;refine ⟨max K K2,fun k hk=>?_⟩;show (g k).bind (f k)=some u;rw [h k (by omega),Option.bind_some];exact h2 k (by omega)
theorem Eve.ite {α : Type} {c : Prop} [Decidable c] {a b : Nat→Option α} {v : α} (h1 : c→Eve a v) (h2 : ¬ c→Eve b v) : Eve (fun k=>if c then a k else b k) v:=by
 by_cases h : c
 ·
  simp only [if_pos h];exact h1 h
 simp only [if_neg h];exact h2 h
theorem Eve.get {α : Type} {g : Nat→Option α} {v : α} (h : Eve g v) : ∃ k,g k=some v:=by
 obtain ⟨K,h⟩:=h;exact ⟨K,h K (by omega)⟩
theorem Eve.eq {α : Type} {g : Nat→Option α} {v u : α} (h : Eve g v) (e : v=u) : Eve g u:=e ▸ h
theorem Eve.congr {α : Type} {g f : Nat→Option α} {v : α} (h : Eve g v) (e : ∀ k,f k=g k) : Eve f v:=by
 obtain ⟨K,h⟩:=h;exact ⟨K,fun k hk=>by rw [e,h k hk]⟩
theorem ev_loop {σ α β : Type} (xs : List α) (g : Nat→σ→Int→Option β) (R : Nat→σ→List α→β) (I : Nat→σ→Prop)
  (hend : ∀ s,I xs.length s→Eve (fun k=>g (k+1) s (xs.length : Int)) (R xs.length s []))
  (hstep : ∀ (i : Nat) (h : i<xs.length) (s : σ),I i s→(∀ s',I (i+1) s' → Eve (fun k=>g k s' ((i+1 : Nat) : Int)) (R (i+1) s' (xs.drop (i+1)))) →
   Eve (fun k=>g (k+1) s (i : Int)) (R i s (xs[i] :: xs.drop (i+1)))) :
  ∀ (d i : Nat) (s : σ),i+d=xs.length→I i s→Eve (fun k=>g k s (i : Int)) (R i s (xs.drop i)):=by
 intro d
 induction d with
 | zero =>
  intro i s hi hI;obtain rfl : i=xs.length:=by omega
  rw [List.drop_length];exact Eve.succ (hend s hI)
 | succ d ih =>
  intro i s hi hI;have hlt : i<xs.length:=by omega
  rw [drop_at xs i hlt];exact Eve.succ (hstep i hlt s hI (fun s' h' => ih (i+1) s' (by omega) h'))
theorem ev_loop0 {σ α β : Type} (xs : List α) (g : Nat→σ→Int→Option β) (R : Nat→σ→List α→β) (I : Nat→σ→Prop)
  (hend : ∀ s,I xs.length s→Eve (fun k=>g (k+1) s (xs.length : Int)) (R xs.length s []))
  (hstep : ∀ (i : Nat) (h : i<xs.length) (s : σ),I i s→(∀ s',I (i+1) s' → Eve (fun k=>g k s' ((i+1 : Nat) : Int)) (R (i+1) s' (xs.drop (i+1)))) →
   Eve (fun k=>g (k+1) s (i : Int)) (R i s (xs[i] :: xs.drop (i+1)))) (s : σ) (h0 : I 0 s) : Eve (fun k=>g k s 0) (R 0 s xs):=by
 have:=ev_loop xs g R I hend hstep xs.length 0 s (by omega) h0
 simpa using this
theorem ev_map {α β : Type} (xs : List α) (g : Nat→List β→Int→Option (List β)) (c : α→β) (z : β)
  (hend : ∀ ys,ys.length=xs.length→Eve (fun k=>g (k+1) ys (xs.length : Int)) ys)
  (hstep : ∀ (i : Nat) (h : i<xs.length) (ys : List β) (v : List β),ys.length=xs.length→Eve (fun k=>g k (ys.set i (c xs[i])) ((i+1 : Nat) : Int)) v→Eve (fun k=>g (k+1) ys (i : Int)) v) :
  Eve (fun k=>g k (List.replicate xs.length z) 0) (xs.map c):=by
 have:=ev_loop0 xs g (fun i ys rest=>ys.take i++rest.map c) (fun _ ys=>ys.length=xs.length) (fun ys hy=>by
  rw [List.take_of_length_le (by omega)];simpa using hend ys hy) (fun i hi ys hy ih=>by
  refine hstep i hi ys _ hy ((ih _ (by simp [hy])).eq ?_);show (ys.set i (c xs[i])).take (i+1)++(xs.drop (i+1)).map c=ys.take i++(xs[i] :: xs.drop (i+1)).map c;rw [List.take_succ_eq_append_getElem (by simp;omega),List.getElem_set_self,List.take_set_of_le (Nat.le_refl _),List.map_cons,List.append_assoc]
  rfl) (List.replicate xs.length z) (by simp)
 simpa using this
theorem ev_all {α : Type} (xs : List α) (g : Nat→Int→Option Bool) (q : α→Bool)
  (hend : Eve (fun k=>g (k+1) (xs.length : Int)) true)
  (hstep : ∀ (i : Nat) (h : i<xs.length) (v : Bool),Eve (fun k=>g k ((i+1 : Nat) : Int)) v→Eve (fun k=>g (k+1) (i : Int)) (q xs[i] && v)) : Eve (fun k=>g k 0) (xs.all q) :=
 ev_loop0 xs (fun k (_ : Unit) i=>g k i) (fun _ _ r=>r.all q) (fun _ _=>True) (fun _ _=>hend) (fun i hi s _ ih=>by
  rw [List.all_cons];exact hstep i hi _ (ih () trivial)) () trivial
theorem ev_less {α : Type} (xs : List α) (g : Nat→Int→Int→Option Int) (s : α→Nat)
  (hend : ∀ l,Eve (fun k=>g (k+1) l (xs.length : Int)) l)
  (hstep : ∀ (i : Nat) (h : i<xs.length) (l v : Int),0≤l→l≤1048576→(0≤l - s xs[i]→Eve (fun k=>g k (l - s xs[i]) ((i+1 : Nat) : Int)) v)→Eve (fun k=>g (k+1) l (i : Int)) (if l - s xs[i]<0 then -1 else v))
  {l : Int} (h0 : 0≤l) (h1 : l≤1048576) : Eve (fun k=>g k l 0) (if l - total s xs<0 then -1 else l - total s xs):=by
 have:=ev_loop0 xs g (fun _ l r=>less s r l) (fun _ l=>0≤l∧l≤1048576) (fun l _=>hend l) (fun i hi l hI ih=>by
  refine (hstep i hi l _ hI.1 hI.2 (fun h=>ih (l - s xs[i]) ⟨h,by omega⟩)).eq ?_
  rfl) l ⟨h0,h1⟩
 rw [less_is s xs l h0] at this
 by_cases h : l<total s xs
 ·
  rw [if_pos h] at this;rw [if_pos (by omega)];exact this
 rw [if_neg h] at this;rw [if_neg (by omega)];exact this
end Go.Proofs.YtamikhmpfmgofaaW.Pl
end
section
namespace Go.Proofs.Ytamikhmpfmgofaa.Pure
open Go.RowKit Go.Proofs.Ytamikhmpfmgofaa.Q Go.Proofs.YtamikhmpfmgofaaW.PrintWords Go.Proofs.YtamikhmpfmgofaaW.PrintLast Go.Proofs.YtamikhmpfmgofaaW.Pl
abbrev LEnt:=S47
abbrev IEnt:=S51
abbrev LPag:=S79
abbrev IPag:=S67
def ie (e : LEnt) : IEnt:=⟨e.f0,e.f1⟩
def ip (p : LPag) : IPag:=⟨p.f0,p.f1.map ie⟩
theorem wi {i : Nat} (h : i≤9223372036854775806) : wrap64 ((i : Int)+1)=((i+1 : Nat) : Int):=w64 (by omega) (by omega)
theorem rdLE (l : List LEnt) (i : Nat) (h : i<l.length) : rd_T47 l (i : Int)=l[i]:=getD_at _ l i h
theorem rdIE (l : List IEnt) (i : Nat) (h : i<l.length) : rd_T51 l (i : Int)=l[i]:=getD_at _ l i h
theorem rdLP (l : List LPag) (i : Nat) (h : i<l.length) : rd_T79 l (i : Int)=l[i]:=getD_at _ l i h
theorem rdIP (l : List IPag) (i : Nat) (h : i<l.length) : rd_T67 l (i : Int)=l[i]:=getD_at _ l i h
theorem szEntry_tells (e : LEnt) (h : e.f0.size≤9223372036854775807) {left : Int} (h0 : 0≤left) (h1 : left≤1048576) :
  Ff.f e.f0 e.f1 left=some (if left - e.f0.size<0 then -1 else left - e.f0.size):=by
 unfold Ff.f;rw [w64 (by omega) (by omega)]
 split <;> rfl
def szES (l : List LEnt) : Nat:=l.length+total (fun e=>e.f0.size) l
theorem szEntryS_tells (l : List LEnt) (hl : l.length≤9223372036854775807) (hs : ∀ x ∈ l,x.f0.size≤9223372036854775807) {left : Int} (h0 : 0≤left) (h1 : left≤1048576) :
  Eve (fun k=>Fo.f k l left) (if left - szES l<0 then -1 else left - szES l):=by
 simp only [Fo.f];rw [w64 (by omega) (by omega)];refine Eve.ite (fun h=>Eve.one.eq ?_) (fun h=>?_)
 ·
  rw [if_pos (by simp [szES];omega)]
 refine (ev_less l (fun k l' i=>Fo.l0 k l l' i) (fun e=>e.f0.size) (fun l' => ?_) (fun i hi l' v a b ih=>?_) (by omega) (by omega)).eq ?_
 ·
  simp only [Fo.l0]
  exact Eve.ite (fun h=>absurd h (by omega)) (fun _=>Eve.one)
 ·
  have hsz:=hs l[i] (List.getElem_mem hi)
  simp only [Fo.l0];refine Eve.ite (fun _=>?_) (fun h=>absurd h (by omega));refine Eve.ite (fun _=>?_) (fun h=>absurd h (by omega));simp only [rdLE _ _ hi,szEntry_tells _ hsz a b,Option.bind_some,wi (show i≤9223372036854775806 by omega)]
  by_cases h2 : l' - (l[i].f0.size : Int)<0
  ·
   simp only [if_pos h2]
   exact Eve.ite (fun _=>Eve.one) (fun h=>absurd h (by omega))
  simp only [if_neg h2];exact ih (by omega)
 have : ((szES l : Nat) : Int)=l.length+total (fun e=>e.f0.size) l:=by simp [szES]
 rw [this,Int.sub_sub]
theorem szPage_tells (p : LPag) (hl : p.f1.length≤9223372036854775807) (hs : ∀ x ∈ p.f1,x.f0.size≤9223372036854775807) {left : Int} (h0 : 0≤left) (h1 : left≤1048576) :
  Eve (fun k=>Fa.f k p.f0 p.f1 left) (if left - szES p.f1<0 then -1 else left - szES p.f1):=by
 simp only [Fa.f];refine Eve.bind (szEntryS_tells p.f1 hl hs h0 h1) ?_
 by_cases h : left - szES p.f1<0
 ·
  simp only [if_pos h];exact Eve.ite (fun _=>Eve.one) (fun h=>absurd h (by omega))
 simp only [if_neg h];exact Eve.one
def goodP (p : LPag) : Prop:=p.f1.length≤9223372036854775807 ∧ ∀ x ∈ p.f1,x.f0.size≤9223372036854775807
def szPS (l : List LPag) : Nat:=l.length+total (fun p=>szES p.f1) l
theorem szPageS_tells (l : List LPag) (hl : l.length≤9223372036854775807) (hs : ∀ x ∈ l,goodP x) {left : Int} (h0 : 0≤left) (h1 : left≤1048576) :
  Eve (fun k=>Fp.f k l left) (if left - szPS l<0 then -1 else left - szPS l):=by
 simp only [Fp.f];rw [w64 (by omega) (by omega)];refine Eve.ite (fun h=>Eve.one.eq ?_) (fun h=>?_)
 ·
  rw [if_pos (by simp [szPS];omega)]
 refine (ev_less l (fun k l' i=>Fp.l0 k l l' i) (fun p=>szES p.f1) (fun l' => ?_) (fun i hi l' v a b ih=>?_) (by omega) (by omega)).eq ?_
 ·
  simp only [Fp.l0]
  exact Eve.ite (fun h=>absurd h (by omega)) (fun _=>Eve.one)
 ·
  have hsz:=hs l[i] (List.getElem_mem hi)
  simp only [Fp.l0];refine Eve.ite (fun _=>?_) (fun h=>absurd h (by omega));refine Eve.ite (fun _=>?_) (fun h=>absurd h (by omega));simp only [rdLP _ _ hi,wi (show i≤9223372036854775806 by omega)];refine Eve.bind (szPage_tells l[i] hsz.1 hsz.2 a b) ?_
  by_cases h2 : l' - (szES l[i].f1 : Int)<0
  ·
   simp only [if_pos h2]
   exact Eve.ite (fun _=>Eve.one) (fun h=>absurd h (by omega))
  simp only [if_neg h2];exact ih (by omega)
 have : ((szPS l : Nat) : Int)=l.length+total (fun p=>szES p.f1) l:=by simp [szPS]
 rw [this,Int.sub_sub]
theorem szTree_tells (l : List LPag) (n : Int) (hl : l.length≤9223372036854775807) (hs : ∀ x ∈ l,goodP x) {left : Int} (h0 : 0≤left) (h1 : left≤1048576) :
  Eve (fun k=>F0e.f k l n left) (if left - szPS l<0 then -1 else left - szPS l):=by
 simp only [F0e.f];refine Eve.bind (szPageS_tells l hl hs h0 h1) ?_
 by_cases h : left - szPS l<0
 ·
  simp only [if_pos h];exact Eve.ite (fun _=>Eve.one) (fun h=>absurd h (by omega))
 simp only [if_neg h];exact Eve.one
def Fits (l : List LPag) : Prop:=szPS l≤1048576
theorem Fits.len {l : List LPag} (h : Fits l) : l.length≤1048576:=by unfold Fits szPS at h;omega
theorem Fits.page {l : List LPag} (h : Fits l) (p : LPag) (hp : p ∈ l) : p.f1.length≤1048576:=by
 unfold Fits szPS at h;have:=total_le (fun p=>szES p.f1) l p hp;simp only [szES] at this;unfold szES at h
 omega
theorem flat_le : ∀ l : List LPag,(l.flatMap (·.f1)).length≤total (fun p=>szES p.f1) l
 | []=>by simp
 | p :: l=>by
  have:=flat_le l;simp [total,szES] at *
  omega
theorem Fits.flat {l : List LPag} (h : Fits l) : (l.flatMap (·.f1)).length≤1048576:=by
 have:=flat_le l;unfold Fits szPS at h
 omega
theorem toEntryS_tells (l : List LEnt) (hl : l.length≤1048576) : Eve (fun k=>Fl.f k l) (l.map ie):=by
 simp only [Fl.f];refine Eve.ite (fun _=>?_) (fun h=>absurd h (by omega));refine Eve.ite (fun _=>?_) (fun h=>absurd h (by omega));refine (ev_map l (fun k ys i=>Fl.l0 k l ys i) ie z51 (fun ys hy=>?_) (fun i hi ys v hy ih=>?_))
 ·
  simp only [Fl.l0]
  exact Eve.ite (fun h=>absurd h (by omega)) (fun _=>Eve.one)
 simp only [Fl.l0];refine Eve.ite (fun _=>?_) (fun h=>absurd h (by omega));refine Eve.ite (fun _=>?_) (fun h=>absurd h (by omega));simp only [rdLE _ _ hi,F5.f,Option.bind_some,wi (show i≤9223372036854775806 by omega)];refine Eve.ite (fun _=>?_) (fun h=>absurd h (by omega));exact ih
theorem toPage_tells (p : LPag) (hl : p.f1.length≤1048576) : Eve (fun k=>Fb.f k p.f0 p.f1) (p.f0,p.f1.map ie):=by
 simp only [Fb.f];exact Eve.bind (toEntryS_tells p.f1 hl) Eve.one
theorem toPageS_tells (l : List LPag) (hl : l.length≤1048576) (hs : ∀ p ∈ l,p.f1.length≤1048576) : Eve (fun k=>Fm.f k l) (l.map ip):=by
 simp only [Fm.f];refine Eve.ite (fun _=>?_) (fun h=>absurd h (by omega));refine Eve.ite (fun _=>?_) (fun h=>absurd h (by omega));refine (ev_map l (fun k ys i=>Fm.l0 k l ys i) ip z67 (fun ys hy=>?_) (fun i hi ys v hy ih=>?_))
 ·
  simp only [Fm.l0]
  exact Eve.ite (fun h=>absurd h (by omega)) (fun _=>Eve.one)
 simp only [Fm.l0];refine Eve.ite (fun _=>?_) (fun h=>absurd h (by omega));refine Eve.ite (fun _=>?_) (fun h=>absurd h (by omega));simp only [rdLP _ _ hi,wi (show i≤9223372036854775806 by omega)];refine Eve.bind (toPage_tells l[i] (hs _ (List.getElem_mem hi))) ?_;refine Eve.ite (fun _=>?_) (fun h=>absurd h (by omega));exact ih
theorem toTree_tells (l : List LPag) (n : Int) (h : Fits l) : Eve (fun k=>F06.f k l n) (l.map ip,n):=by
 simp only [F06.f];exact Eve.bind (toPageS_tells l h.len h.page) Eve.one
theorem eqEntryS_self (l : List IEnt) (hl : l.length≤1048576) : Eve (fun k=>F6.f k l l) true:=by
 simp only [F6.f,if_true];refine (ev_all l (fun k i=>F6.l0 k l l i) (fun _=>true) ?_ (fun i hi v ih=>?_)).eq (by simp)
 ·
  simp only [F6.l0]
  exact Eve.ite (fun h=>absurd h (by omega)) (fun _=>Eve.one)
 simp only [F6.l0];refine Eve.ite (fun _=>?_) (fun h=>absurd h (by omega));refine Eve.ite (fun _=>?_) (fun h=>absurd h (by omega));simp only [F3.f,if_true,Option.bind_some,wi (show i≤9223372036854775806 by omega),Bool.true_and];exact Eve.ite (fun _=>ih) (fun h=>absurd (by omega) h)
theorem eqPageS_self (l : List IPag) (hl : l.length≤1048576) (hs : ∀ p ∈ l,p.f1.length≤1048576) : Eve (fun k=>Fc.f k l l) true:=by
 simp only [Fc.f,if_true];refine (ev_all l (fun k i=>Fc.l0 k l l i) (fun _=>true) ?_ (fun i hi v ih=>?_)).eq (by simp)
 ·
  simp only [Fc.l0]
  exact Eve.ite (fun h=>absurd h (by omega)) (fun _=>Eve.one)
 simp only [Fc.l0];refine Eve.ite (fun _=>?_) (fun h=>absurd h (by omega));refine Eve.ite (fun _=>?_) (fun h=>absurd h (by omega));refine Eve.ite (fun _=>?_) (fun h=>absurd (by omega) h);simp only [rdIP _ _ hi,F2.f,if_true,Bool.true_and,wi (show i≤9223372036854775806 by omega)];refine Eve.bind (v:=true) (Eve.bind (eqEntryS_self _ (hs _ (List.getElem_mem hi))) ?_) ?_
 ·
  simp only [if_true];exact Eve.one
 simp only [if_true];exact ih
theorem eqTree_self (l : List IPag) (n : Int) (hl : l.length≤1048576) (hs : ∀ p ∈ l,p.f1.length≤1048576) : Eve (fun k=>F05.f k l n l n) true:=by
 simp only [F05.f,if_true];refine Eve.bind (eqPageS_self l hl hs) ?_;simp only [if_true];exact Eve.one
theorem eqTree_to (l : List LPag) (n : Int) (h : Fits l) : Eve (fun k=>F05.f k (l.map ip) n (l.map ip) n) true:=by
 refine eqTree_self _ n (by simpa using h.len) (fun p hp=>?_);obtain ⟨q,hq,rfl⟩:=List.mem_map.1 hp
 simpa [ip] using h.page q hq
theorem good_pages {l : List LPag} (h : l.length≤9223372036854775807 ∧ ∀ y ∈ l,good79 y) : ∀ p ∈ l,goodP p :=
 fun p hp=>⟨(h.2 p hp).2.1,fun e he=>((h.2 p hp).2.2 e he).1⟩
end Go.Proofs.Ytamikhmpfmgofaa.Pure
end
section
namespace Go.Proofs.Ytamikhmpfmgofaa.Pure
open Go.RowKit Go.Proofs.Ytamikhmpfmgofaa.Q Go.Proofs.YtamikhmpfmgofaaW.PrintWords Go.Proofs.YtamikhmpfmgofaaW.PrintLast Go.Proofs.YtamikhmpfmgofaaW.PrintMore Go.Proofs.YtamikhmpfmgofaaW.Pl
theorem cb_is : ∀ x y : List UInt8,Lib.compareBytes x y=if Op.bytesLess x y=true then -1 else if x=y then 0 else 1
 | [],[]=>by simp [Lib.compareBytes,Op.bytesLess]
 | [],_ :: _=>by simp [Lib.compareBytes,Op.bytesLess]
 | _ :: _,[]=>by simp [Lib.compareBytes,Op.bytesLess]
 | a :: x,b :: y=>by
  simp only [Lib.compareBytes,Op.bytesLess];rw [cb_is x y]
  by_cases h : a<b
  ·
   simp [h]
  by_cases h2 : b<a
  ·
   have h3 : ¬ a=b:=by rintro rfl;exact h h2
   simp [h,h2,h3]
  have h3 : a=b:=by
   apply UInt8.toNat_inj.mp;rw [UInt8.lt_iff_toNat_lt] at h h2
   omega
  subst h3;simp [h]
def el (a b : IEnt) : Bool:=Op.bytesLess a.f0.toList b.f0.toList || (decide (a.f0.toList=b.f0.toList) && decide (a.f1<b.f1))
theorem less_tells (a b : IEnt) : F0a.f a.f0 a.f1 b.f0 b.f1=some (el a b):=by
 unfold F0a.f el
 by_cases h : Op.bytesLess a.f0.toList b.f0.toList=true
 ·
  rw [if_pos h,h];rfl
 rw [if_neg h]
 by_cases h2 : a.f0.toList=b.f0.toList
 ·
  rw [if_pos h2];simp [h2] at *;simp [h]
 rw [if_neg h2];simp [h,h2]
def ce (a b : IEnt) : Int:=if Op.bytesLess a.f0.toList b.f0.toList=true then -1 else if a.f0.toList=b.f0.toList then (if a.f1<b.f1 then -1 else if a.f1 > b.f1 then 1 else 0) else 1
theorem compare_tells (a b : IEnt) : Eve (fun k=>Fg.f k a.f0 a.f1 b.f0 b.f1) (ce a b):=by
 refine ⟨4,fun k hk=>?_⟩;obtain ⟨k,rfl⟩ : ∃ m,k=m+3:=⟨k - 3,by omega⟩;have w1 : wrap64 (0+1)=1:=w64 (by omega) (by omega);have w2 : wrap64 (1+1)=2:=w64 (by omega) (by omega)
 have hor : ∀ p q : Int,Fq.f (k+3) [p,q]=some (if p=0 then q else p):=by
  intro p q;have r0 : rd [p,q] 0=p:=rfl;have r1 : rd [p,q] 1=q:=rfl;simp only [Fq.f,Fq.l0,List.length_cons,List.length_nil,w1,w2,r0,r1]
  by_cases hp : p=0
  ·
   by_cases hq : q=0
   ·
    simp [hp,hq]
   simp [hp,hq]
  simp [hp]
 have hc : F0f.f a.f1 b.f1=some (if a.f1<b.f1 then -1 else if a.f1 > b.f1 then 1 else 0):=by
  simp only [F0f.f,F01.f,Option.bind_some,bne_self_eq_false,Bool.false_eq_true,if_false]
  repeat' split
  all_goals rfl
 unfold Fg.f strings_Compare.f;rw [hc];simp only [Option.bind_some,hor,← ba_toList,cb_is];unfold ce
 by_cases h : Op.bytesLess a.f0.toList b.f0.toList=true
 ·
  simp [h]
 by_cases h2 : a.f0.toList=b.f0.toList
 ·
  simp only [if_neg h,if_pos h2,if_true]
 simp [h,h2]
theorem less_irrefl (x : List UInt8) : Op.bytesLess x x=false:=by
 rw [← bytesLess_total x x];simp
theorem ce_lt (a b : IEnt) : ce a b ≥ 0 ↔ ¬ el a b=true:=by
 unfold ce el
 by_cases h : Op.bytesLess a.f0.toList b.f0.toList=true
 ·
  simp [h]
 by_cases h2 : a.f0.toList=b.f0.toList
 ·
  rw [h2,less_irrefl]
  by_cases h3 : a.f1<b.f1
  ·
   simp [h3]
  by_cases h4 : a.f1 > b.f1
  ·
   simp [h3,h4]
  simp [h3,h4]
 simp [h,h2]
theorem ce_le (a b : IEnt) : ce a b≤0 ↔ ¬ el b a=true:=by
 unfold ce el;have ht:=bytesLess_total a.f0.toList b.f0.toList;rw [← ht]
 by_cases h : Op.bytesLess a.f0.toList b.f0.toList=true
 ·
  have : ¬ b.f0.toList=a.f0.toList:=by intro e;rw [e,less_irrefl] at h;simp at h
  simp [h,this]
 by_cases h2 : a.f0.toList=b.f0.toList
 ·
  rw [h2,less_irrefl]
  by_cases h3 : a.f1<b.f1
  ·
   have : ¬ b.f1<a.f1:=by omega
   simp [h3,this]
  by_cases h4 : a.f1 > b.f1
  ·
   have : b.f1<a.f1:=by omega
   simp [h3,h4]
  have : ¬ b.f1<a.f1:=by omega
  simp [h3,h4]
 simp [h,h2]
def inr (a b c : Int) : Bool:=decide (b≤a) && decide (a≤c)
theorem in_spec (a b c : Int) : F00.f a b c=some (inr a b c):=by
 unfold F00.f inr
 by_cases h : b≤a
 ·
  rw [if_pos h];simp [h]
 rw [if_neg h];simp [h]
theorem in_impl (a b c : Int) : Fy.f a b c=some (inr a b c):=in_spec a b c
def eok (e : IEnt) : Bool:=decide ((e.f0.size : Int)≤2000) && inr e.f1 0 9999
theorem eok_spec (e : IEnt) : F08.f e.f0 e.f1=some (eok e):=by
 unfold F08.f eok
 by_cases h : (e.f0.size : Int)≤2000
 ·
  rw [if_pos h,in_spec];simp [h]
 rw [if_neg h];simp [h]
theorem eok_impl (e : IEnt) : F0d.f e.f0 e.f1=some (eok e):=eok_spec e
def ens : IEnt→List IEnt→Bool
 | _,[]=>true
 | p,e :: es=>eok e && (el p e && ens e es)
def lastE : IEnt→List IEnt→IEnt
 | p,[]=>p
 | _,e :: es=>lastE e es
theorem ens_append : ∀ (p : IEnt) (xs ys : List IEnt),ens p (xs++ys)=(ens p xs && ens (lastE p xs) ys)
 | p,[],ys=>by simp [ens,lastE]
 | p,e :: xs,ys=>by simp only [List.cons_append,ens,lastE,ens_append e xs ys,Bool.and_assoc]
def noE : IEnt:=⟨(⟨#[]⟩ : ByteArray),-1⟩
theorem noE_less (e : IEnt) (h : eok e=true) : el noE e=true:=by
 unfold eok inr at h;simp only [Bool.and_eq_true,decide_eq_true_eq] at h;have h0 : noE.f0.toList=[]:=by rw [ba_toList];rfl
 have h1 : noE.f1 = -1:=rfl;unfold el;rw [h0,h1]
 cases e.f0.toList with
 | nil=>simp [Op.bytesLess];omega
 | cons a x=>simp [Op.bytesLess]
def pok (T : List IPag) (n : Int) (seen : List Int) (p : IPag) : Bool:=inr p.f0 1 (n - 1) && (!seen.contains p.f0 && (decide ((p.f1.length : Int)≤4) && !(decide ((p.f1.length : Int)=0) && decide ((T.length : Int) > 1))))
def poks (T : List IPag) (n : Int) : List Int→List IPag→Bool
 | _,[]=>true
 | seen,p :: ps=>pok T n seen p && poks T n (seen ++ [p.f0]) ps
def tok (T : List IPag) (n : Int) : Bool:=inr T.length 1 60 && (inr n 2 100000 && (poks T n [] T && ens noE (T.flatMap (·.f1))))
theorem entries_tells (T : List IPag) (n : Int) (hT : T.length≤1048576) (hf : (T.flatMap (·.f1)).length≤1048576) : Eve (fun k=>Fk.f k T n) (T.flatMap (·.f1)):=by
 simp only [Fk.f]
 have:=ev_loop0 T (fun k ys i=>Fk.l0 k ys T (T.length : Int) i) (fun _ ys r=>ys++r.flatMap (·.f1)) (fun i ys=>ys++(T.drop i).flatMap (·.f1)=T.flatMap (·.f1)) (fun ys _=>by
  simp only [Fk.l0]
  exact Eve.ite (fun h=>absurd h (by omega)) (fun _=>Eve.one.eq (by simp))) (fun i hi ys hI ih=>by
  rw [drop_at T i hi,List.flatMap_cons] at hI;simp only [Fk.l0];refine Eve.ite (fun _=>?_) (fun h=>absurd (by omega) h);refine Eve.ite (fun _=>?_) (fun h=>absurd (by omega) h);refine Eve.ite (fun _=>?_) (fun h=>absurd (by omega) h);simp only [rdIP _ _ hi,wi (show i≤9223372036854775806 by omega)];refine Eve.ite (fun _=>?_) (fun h=>absurd ?_ h)
  ·
   exact (ih (ys++T[i].f1) (by rw [← hI,List.append_assoc])).eq (by rw [List.append_assoc,List.flatMap_cons])
  have:=congrArg List.length hI;simp only [List.length_append] at this
  omega) [] (by simp)
 simpa using this
theorem contains_tells (xs : List Int) (a : Int) (h : xs.length≤1048576) : Eve (fun k=>F03.f k xs a) (xs.contains a):=by
 simp only [F03.f,Fs.f];refine Eve.bind (v:=first (fun x=>decide (a=x)) xs 0) ?_ (Eve.one.eq ?_)
 ·
  refine ev_loop0 xs (fun k (_ : Unit) i=>Fs.l0 k xs a (xs.length : Int) i) (fun i _ r=>first (fun x=>decide (a=x)) r i) (fun _ _=>True) (fun _ _=>?_) (fun i hi s _ ih=>?_) () trivial
  ·
   simp only [Fs.l0]
   exact Eve.ite (fun h=>absurd h (by omega)) (fun _=>Eve.one)
  simp only [Fs.l0];refine Eve.ite (fun _=>?_) (fun h=>absurd (by omega) h);refine Eve.ite (fun _=>?_) (fun h=>absurd (by omega) h);refine Eve.ite (fun _=>?_) (fun h=>absurd (by omega) h);simp only [rd_at _ _ hi,wi (show i≤9223372036854775806 by omega)];refine Eve.ite (fun h=>Eve.one.eq ?_) (fun h=>(ih () trivial).eq ?_)
  ·
   simp [first,h]
  simp [first,h]
 rw [first_any]
 induction xs with
 | nil=>rfl
 | cons x xs ih =>
  rw [List.any_cons,ih (by simp at h;omega),List.contains_cons]
  by_cases e : a=x <;> simp [e]
theorem implOK_tells (T : List IPag) (n : Int) (hT : T.length≤1048576) (hf : (T.flatMap (·.f1)).length≤1048576) : Eve (fun k=>F1.f k T n) (tok T n):=by
 have hj1 : Eve (fun k=>F1.j0 k true T n) false:=Eve.succ (by simp only [F1.j0,if_true];exact Eve.one);simp only [F1.f,in_impl,Option.bind_some];refine Eve.ite (fun h1=>?_) (fun h1=>hj1.eq (by simp [tok,h1]))
 cases h2 : inr n 2 100000
 ·
  exact hj1.eq (by simp [tok,h2])
 refine Eve.succ ?_;simp only [F1.j0,Bool.not_true,Bool.false_eq_true,if_false]
 have hn : wrap64 (n - 1)=n - 1:=by
  unfold inr at h2;simp only [Bool.and_eq_true,decide_eq_true_eq] at h2;exact w64 (by omega) (by omega)
 have:=ev_loop0 T (fun k ys i=>F1.l0 k ys T (T.length : Int) i T n) (fun _ ys r=>poks T n ys r && ens noE (T.flatMap (·.f1))) (fun i ys=>ys.length=i) (fun ys hy=>by
  simp only [F1.l0];refine Eve.ite (fun h=>absurd h (by omega)) (fun _=>?_);refine Eve.bind (entries_tells T n hT hf) ?_;generalize hE : T.flatMap (·.f1)=E at hf ⊢
  have hl:=ev_loop0 E (fun k (_ : Unit) i=>F1.l1 k E E (E.length : Int) i) (fun i _ r=>ens (if i=0 then noE else E.getD (i - 1) noE) r) (fun _ _=>True) (fun _ _=>by
   simp only [F1.l1]
   exact Eve.ite (fun h=>absurd h (by omega)) (fun _=>Eve.one)) (fun i hi s _ ih=>by
   simp only [F1.l1];refine Eve.ite (fun _=>?_) (fun h=>absurd (by omega) h);refine Eve.ite (fun _=>?_) (fun h=>absurd (by omega) h);refine Eve.ite (fun _=>?_) (fun h=>absurd (by omega) h);simp only [rdIE _ _ hi,eok_impl,Option.bind_some,wi (show i≤9223372036854775806 by omega)];have hnx:=ih () trivial;simp only [Nat.add_one_ne_zero,if_false,Nat.add_sub_cancel,List.getD_eq_getElem?_getD,List.getElem?_eq_getElem hi,Option.getD_some] at hnx;refine Eve.ite (fun h1=>?_) (fun h1=>Eve.one.eq (by simp [ens,h1]));refine Eve.ite (fun h2=>?_) (fun h2=>hnx.eq ?_)
   ·
    have hw : wrap64 ((i : Int) - 1)=((i - 1 : Nat) : Int):=by rw [w64 (by omega) (by omega)];omega
    simp only [hw];refine Eve.ite (fun _=>?_) (fun h=>absurd (by omega) h);refine Eve.ite (fun _=>?_) (fun h=>absurd (by omega) h);rw [if_neg (by omega),List.getD_eq_getElem?_getD,List.getElem?_eq_getElem (show i - 1<E.length by omega),Option.getD_some];simp only [rdIE _ _ (show i - 1<E.length by omega)];refine Eve.bind (compare_tells _ _) ?_;refine Eve.ite (fun h3=>Eve.one.eq ?_) (fun h3=>hnx.eq ?_)
    ·
     have:=(ce_lt _ _).1 h3
     simp [ens,this]
    have : el (E[i - 1]) E[i]=true:=by
     by_cases h4 : el (E[i - 1]) E[i]=true
     ·
      exact h4
     exact absurd ((ce_lt _ _).2 h4) h3
    simp [ens,this,h1]
   obtain rfl : i=0:=by omega
   rw [if_pos rfl]
   simp [ens,h1,noE_less _ h1]) () trivial
  rw [if_pos rfl] at hl
  exact hl.eq (by simp [poks])) (fun i hi ys hI ih=>by
  simp only [F1.l0];refine Eve.ite (fun _=>?_) (fun h=>absurd (by omega) h);refine Eve.ite (fun _=>?_) (fun h=>absurd (by omega) h);refine Eve.ite (fun _=>?_) (fun h=>absurd (by omega) h);simp only [rdIP _ _ hi,hn,in_impl,Option.bind_some,wi (show i≤9223372036854775806 by omega)];refine Eve.ite (fun h1=>?_) (fun h1=>Eve.one.eq (by simp [poks,pok,h1]));refine Eve.bind (contains_tells ys _ (by omega)) ?_;refine Eve.ite (fun h2=>Eve.one.eq (by simp only [poks,pok,h2];simp)) (fun h2=>?_);refine Eve.ite (fun h3=>Eve.one.eq ?_) (fun h3=>?_)
  ·
   have : ¬ ((T[i].f1.length : Int)≤4):=by omega
   simp only [poks,pok,this];simp
  have h3' : ((T[i].f1.length : Int)≤4):=by omega
  have hnx:=ih (ys ++ [T[i].f0]) (by simp [hI]);refine Eve.ite (fun h4=>?_) (fun h4=>?_)
  ·
   refine Eve.ite (fun h5=>Eve.one.eq ?_) (fun h5=>?_)
   ·
    simp only [poks,pok,h4,h5];simp
   refine Eve.ite (fun _=>hnx.eq ?_) (fun h=>absurd (by omega) h);simp only [poks,pok,h1,h2,h4,h5];simp
  refine Eve.ite (fun _=>hnx.eq ?_) (fun h=>absurd (by omega) h)
  simp only [poks,pok,h1,h2,h3',h4];simp) [] rfl
 exact this.eq (by simp [tok,h1,h2])
theorem specOK_tells (T : List IPag) (n : Int) (hT : T.length≤1048576) (hf : ∀ p ∈ T,p.f1.length≤1048576) : Eve (fun k=>F0.f k T n) (tok T n):=by
 have hj1 : Eve (fun k=>F0.j0 k true T n) false:=Eve.succ (by simp only [F0.j0,if_true];exact Eve.one);simp only [F0.f,in_spec,Option.bind_some];refine Eve.ite (fun h1=>?_) (fun h1=>hj1.eq (by simp [tok,h1]))
 cases h2 : inr n 2 100000
 ·
  exact hj1.eq (by simp [tok,h2])
 refine Eve.succ ?_;simp only [F0.j0,Bool.not_true,Bool.false_eq_true,if_false]
 have hn : wrap64 (n - 1)=n - 1:=by
  unfold inr at h2;simp only [Bool.and_eq_true,decide_eq_true_eq] at h2;exact w64 (by omega) (by omega)
 have:=ev_loop0 T (fun k (e : IEnt) i=>F0.l0 k i T n e.f0 e.f1) (fun i e r=>poks T n ((T.take i).map (·.f0)) r && ens e (r.flatMap (·.f1))) (fun _ _=>True) (fun e _=>by
  simp only [F0.l0]
  exact Eve.ite (fun h=>absurd h (by omega)) (fun _=>Eve.one)) (fun i hi e _ ih=>by
  have htk : (T.take (i+1)).map (·.f0)=(T.take i).map (·.f0) ++ [T[i].f0]:=by
   rw [List.take_succ_eq_append_getElem hi,List.map_append];rfl
  simp only [htk] at ih;simp only [F0.l0];refine Eve.ite (fun _=>?_) (fun h=>absurd (by omega) h);refine Eve.ite (fun _=>?_) (fun h=>absurd (by omega) h);simp only [rdIP _ _ hi,hn,in_spec,Option.bind_some];generalize hp : T[i]=p at ih ⊢;have hpl : p.f1.length≤1048576:=by rw [← hp];exact hf _ (List.getElem_mem hi)
  have hjt : ∀ v,v=false→Eve (fun k=>F0.j2 k (i : Int) true T n e.f0 e.f1 p.f0 p.f1) v:=fun v hv=>Eve.succ (by simp only [F0.j2,if_true];exact Eve.one.eq hv.symm);have hjf : ∀ v,Eve (fun k=>F0.l1 k (i : Int) 0 T n e.f0 e.f1 p.f0 p.f1) v→Eve (fun k=>F0.j2 k (i : Int) false T n e.f0 e.f1 p.f0 p.f1) v:=fun v hv=>Eve.succ (by simp only [F0.j2,Bool.false_eq_true,if_false];exact hv)
  have hl2 : Eve (fun k=>F0.l2 k (i : Int) 0 T n e.f0 e.f1 p.f0 p.f1) (ens e p.f1 && (poks T n ((T.take i).map (·.f0) ++ [p.f0]) (T.drop (i+1)) && ens (lastE e p.f1) ((T.drop (i+1)).flatMap (·.f1)))):=by
   refine ev_loop0 p.f1 (fun k (e : IEnt) j=>F0.l2 k (i : Int) j T n e.f0 e.f1 p.f0 p.f1) (fun _ e r=>ens e r && (poks T n ((T.take i).map (·.f0) ++ [p.f0]) (T.drop (i+1)) && ens (lastE e r) ((T.drop (i+1)).flatMap (·.f1)))) (fun _ _=>True) (fun e' _=>?_) (fun j hj e' _ ih2=>?_) e trivial
   ·
    simp only [F0.l2]
    refine Eve.ite (fun h=>absurd h (by omega)) (fun _=>?_);simp only [wi (show i≤9223372036854775806 by omega)];exact (ih e' trivial).eq (by simp [ens,lastE])
   simp only [F0.l2];refine Eve.ite (fun _=>?_) (fun h=>absurd (by omega) h);refine Eve.ite (fun _=>?_) (fun h=>absurd (by omega) h);simp only [rdIE _ _ hj,eok_spec,less_tells,Option.bind_some,wi (show j≤9223372036854775806 by omega)];refine Eve.ite (fun h1=>?_) (fun h1=>Eve.one.eq (by simp [ens,h1]));refine Eve.ite (fun h2=>(ih2 p.f1[j] trivial).eq ?_) (fun h2=>Eve.one.eq (by simp [ens,h2]));simp only [ens,h1,h2,lastE,Bool.true_and]
  have hl1 : Eve (fun k=>F0.l1 k (i : Int) 0 T n e.f0 e.f1 p.f0 p.f1) (!((T.take i).map (·.f0)).contains p.f0 && (ens e p.f1 && (poks T n ((T.take i).map (·.f0) ++ [p.f0]) (T.drop (i+1)) && ens (lastE e p.f1) ((T.drop (i+1)).flatMap (·.f1))))):=by
   have hx : (T.take i).length=i:=by simp;omega
   refine ev_loop0 (T.take i) (fun k (_ : Unit) j=>F0.l1 k (i : Int) j T n e.f0 e.f1 p.f0 p.f1) (fun _ _ r => !(r.map (·.f0)).contains p.f0 && (ens e p.f1 && (poks T n ((T.take i).map (·.f0) ++ [p.f0]) (T.drop (i+1)) && ens (lastE e p.f1) ((T.drop (i+1)).flatMap (·.f1))))) (fun _ _=>True) (fun _ _=>?_) (fun j hj s _ ih2=>?_) () trivial
   ·
    simp only [F0.l1,hx]
    exact Eve.ite (fun h=>absurd h (by omega)) (fun _=>hl2.eq (by simp))
   have hjT : j<T.length:=by omega
   simp only [F0.l1];refine Eve.ite (fun _=>?_) (fun h=>absurd (by omega) h);refine Eve.ite (fun _=>?_) (fun h=>absurd (by omega) h);refine Eve.ite (fun _=>?_) (fun h=>absurd (by omega) h);simp only [rdIP _ _ hjT,wi (show j≤9223372036854775806 by omega),List.getElem_take];refine Eve.ite (fun h=>Eve.one.eq ?_) (fun h=>(ih2 () trivial).eq ?_)
   ·
    simp [h]
   simp [Ne.symm h]
  have happ : ∀ b : Bool,(b && poks T n ((T.take i).map (·.f0) ++ [p.f0]) (T.drop (i+1)) && ens e ((p :: T.drop (i+1)).flatMap (·.f1)))=(b && (ens e p.f1 && (poks T n ((T.take i).map (·.f0) ++ [p.f0]) (T.drop (i+1)) && ens (lastE e p.f1) ((T.drop (i+1)).flatMap (·.f1))))):=by
   intro b;rw [List.flatMap_cons,ens_append];generalize poks T n ((T.take i).map (·.f0) ++ [p.f0]) (T.drop (i+1))=u
   cases b <;> cases u <;> simp
  simp only [poks,happ];refine Eve.ite (fun h1=>?_) (fun h1=>hjt _ (by simp [pok,h1]));refine Eve.ite (fun h3=>hjt _ ?_) (fun h3=>?_)
  ·
   have : ¬ ((p.f1.length : Int)≤4):=by omega
   simp only [pok,this];simp
  have h3' : ((p.f1.length : Int)≤4):=by omega
  refine Eve.ite (fun h4=>?_) (fun h4=>?_)
  ·
   by_cases h5 : (T.length : Int) > 1
   ·
    simp only [h5,decide_true]
    refine hjt _ ?_;simp only [pok,h4,h5];simp
   simp only [h5,decide_false];refine (hjf _ hl1).eq ?_;simp only [pok,h1,h4,h5];simp
  refine (hjf _ hl1).eq ?_
  simp only [pok,h1,h3',h4];simp) noE trivial
 exact this.eq (by simp [tok,h1,h2])
def ihas (lo hi : ByteArray) (op : Bool) (key : ByteArray) : Bool:=if Op.bytesLess key.toList lo.toList=true then false else if op=true then true else Op.bytesLess key.toList hi.toList
def place (e : IEnt) : Nat→Int→List IPag→Int
 | _,at_,[]=>at_
 | i,at_,p :: ps=>place e (i+1) (match p.f1 with|[]=>at_|f :: _=>if el e f=true then at_ else (i : Int)) ps
theorem bl_trans : ∀ {x y z : List UInt8},Op.bytesLess x y=true→Op.bytesLess y z=true→Op.bytesLess x z=true
 | [],_,[],_,h=>by rename_i y _;cases y <;> simp [Op.bytesLess] at h
 | [],_,_ :: _,_,_=>by simp [Op.bytesLess]
 | _ :: _,[],_,h,_=>by simp [Op.bytesLess] at h
 | _ :: _,_ :: _,[],_,h=>by simp [Op.bytesLess] at h
 | a :: x,b :: y,c :: z,h1,h2=>by
  simp only [Op.bytesLess,Bool.or_eq_true,Bool.and_eq_true,decide_eq_true_eq,beq_iff_eq] at h1 h2 ⊢;rcases h1 with h1|⟨rfl,h1⟩ <;> rcases h2 with h2|⟨rfl,h2⟩
  ·
   left;rw [UInt8.lt_iff_toNat_lt] at *;omega
  ·
   exact .inl h1
  ·
   exact .inl h2
  exact .inr ⟨rfl,bl_trans h1 h2⟩
theorem bl_total {x y : List UInt8} (h1 : ¬ Op.bytesLess x y=true) (h2 : ¬ x=y) : Op.bytesLess y x=true:=by
 have:=bytesLess_total x y;rw [← this];simp [h1,h2]
theorem el_trans {a b c : IEnt} (h1 : el a b=true) (h2 : el b c=true) : el a c=true:=by
 unfold el at *;simp only [Bool.or_eq_true,Bool.and_eq_true,decide_eq_true_eq] at *;rcases h1 with h1|⟨h1,h1'⟩ <;> rcases h2 with h2|⟨h2,h2'⟩
 ·
  exact .inl (bl_trans h1 h2)
 ·
  exact .inl (h2 ▸ h1)
 ·
  exact .inl (h1 ▸ h2)
 exact .inr ⟨h1.trans h2,by omega⟩
theorem ens_ahead : ∀ (p : IEnt) (xs : List IEnt),ens p xs=true → ∀ x ∈ xs,el p x=true∧eok x=true
 | _,[],_,x,hx=>by simp at hx
 | p,e :: xs,h,x,hx=>by
  simp only [ens,Bool.and_eq_true] at h;rcases List.mem_cons.1 hx with rfl|hx
  ·
   exact ⟨h.2.1,h.1⟩
  have:=ens_ahead e xs h.2.2 x hx;exact ⟨el_trans h.2.1 this.1,this.2⟩
def stop (hi : ByteArray) (op : Bool) (p : IPag) : Bool:=!op && match p.f1 with|[]=>false|f :: _ => !Op.bytesLess f.f0.toList hi.toList
def taken (hi : ByteArray) (op : Bool) : List IPag→List IPag
 | [] => []
 | p :: ps=>if stop hi op p=true then [] else p :: taken hi op ps
def ranged (hi : ByteArray) (op : Bool) : List IPag→List IPag
 | [] => []
 | p :: ps=>p :: taken hi op ps
end Go.Proofs.Ytamikhmpfmgofaa.Pure
end
section
namespace Go.Proofs.Ytamikhmpfmgofaa.Pure
open Go Go.RowKit Go.Proofs.Ytamikhmpfmgofaa.Q Go.Proofs.YtamikhmpfmgofaaW.PrintWords Go.Proofs.YtamikhmpfmgofaaW.PrintLast Go.Proofs.YtamikhmpfmgofaaW.PrintMore Go.Proofs.YtamikhmpfmgofaaW.Pl
theorem map_flat (l : List LPag) : (l.map ip).flatMap (·.f1)=(l.flatMap (·.f1)).map ie:=by
 rw [List.flatMap_map,List.map_flatMap];rfl
theorem place_spec (T : List IPag) (n : Int) (e : IEnt) (hT : T.length≤1048576) (h0 : 0<T.length) : Eve (fun k=>F8.f k T n e.f0 e.f1) (place e 1 0 (T.drop 1)):=by
 simp only [F8.f]
 have:=ev_loop T (fun k (c : Int) i=>F8.l0 k c i T n e.f0 e.f1) (fun i c r=>place e i c r) (fun _ _=>True) (fun c _=>by
  simp only [F8.l0]
  exact Eve.ite (fun h=>absurd h (by omega)) (fun _=>Eve.one)) (fun i hi c hI ih=>by
  simp only [F8.l0];refine Eve.ite (fun _=>?_) (fun h=>absurd (by omega) h);refine Eve.ite (fun _=>?_) (fun h=>absurd (by omega) h);simp only [rdIP _ _ hi,wi (show i≤9223372036854775806 by omega)];refine Eve.ite (fun h=>?_) (fun h=>?_)
  ·
   refine Eve.ite (fun _=>?_) (fun h=>absurd (by omega) h)
   have hl : 0<T[i].f1.length:=by omega
   have hr:=rdIE T[i].f1 0 hl;simp only [show ((0 : Nat) : Int)=0 from rfl] at hr;simp only [hr,less_tells,Option.bind_some];have hc : T[i].f1=T[i].f1[0] :: T[i].f1.drop 1:=drop_at T[i].f1 0 hl;refine Eve.ite (fun h1=>(ih c trivial).eq ?_) (fun h1=>(ih (i : Int) trivial).eq ?_)
   ·
    rw [place,hc];simp only [h1,if_true]
   rw [place,hc];simp only [if_neg h1]
  have hc : T[i].f1=[]:=List.length_eq_zero_iff.1 (by omega)
  exact (ih c trivial).eq (by rw [place,hc])) (T.length - 1) 1 0 (by omega) trivial
 exact this
theorem place_impl (T : List IPag) (n : Int) (e : IEnt) (hT : T.length≤1048576) : Eve (fun k=>F9.f k T n e.f0 e.f1) (place e 0 0 T):=by
 simp only [F9.f];refine ev_loop0 T (fun k (c : Int) i=>F9.l0 k c T (T.length : Int) i e.f0 e.f1) (fun i c r=>place e i c r) (fun _ _=>True) (fun c _=>?_) (fun i hi c hI ih=>?_) 0 trivial
 ·
  simp only [F9.l0]
  exact Eve.ite (fun h=>absurd h (by omega)) (fun _=>Eve.one)
 simp only [F9.l0];refine Eve.ite (fun _=>?_) (fun h=>absurd (by omega) h);refine Eve.ite (fun _=>?_) (fun h=>absurd (by omega) h);refine Eve.ite (fun _=>?_) (fun h=>absurd (by omega) h);simp only [rdIP _ _ hi,wi (show i≤9223372036854775806 by omega)];refine Eve.ite (fun h=>?_) (fun h=>?_)
 ·
  refine Eve.ite (fun _=>?_) (fun h=>absurd (by omega) h)
  have hl : 0<T[i].f1.length:=by omega
  have hr:=rdIE T[i].f1 0 hl;simp only [show ((0 : Nat) : Int)=0 from rfl] at hr;simp only [hr];have hc : T[i].f1=T[i].f1[0] :: T[i].f1.drop 1:=drop_at T[i].f1 0 hl;refine Eve.bind (compare_tells _ _) ?_;refine Eve.ite (fun h1=>(ih (i : Int) trivial).eq ?_) (fun h1=>(ih c trivial).eq ?_)
  ·
   rw [place,hc];simp only [if_neg ((ce_le _ _).1 h1)]
  have h2 : el e T[i].f1[0]=true:=by
   by_cases h4 : el e T[i].f1[0]=true
   ·
    exact h4
   exact absurd ((ce_le _ _).2 h4) h1
  rw [place,hc];simp only [h2,if_true]
 have hc : T[i].f1=[]:=List.length_eq_zero_iff.1 (by omega);exact (ih c trivial).eq (by rw [place,hc])
theorem place_from (T : List IPag) (e : IEnt) (h0 : 0<T.length) : place e 0 0 T=place e 1 0 (T.drop 1):=by
 cases T with
 | nil=>simp at h0
 | cons p ps =>
  simp only [place,List.drop_one,List.tail_cons]
  cases p.f1 with
  | nil=>rfl
  | cons f fs=>simp
theorem place_in (e : IEnt) : ∀ (T : List IPag) (i : Nat) (c : Int),0≤c→c<(i+T.length : Nat)→0≤place e i c T∧place e i c T<(i+T.length : Nat)
 | [],i,c,h0,h1=>by simp only [place];exact ⟨h0,h1⟩
 | p :: ps,i,c,h0,h1=>by
  simp only [place,List.length_cons] at *;have e1 : i+1+ps.length=i+(ps.length+1):=by omega
  rw [← e1] at h1 ⊢;apply place_in e ps (i+1)
  ·
   repeat' split
   all_goals omega
  repeat' split
  all_goals omega
theorem el_irrefl (a : IEnt) : el a a=false:=by
 unfold el;rw [less_irrefl];simp
theorem el_total {a b : IEnt} (h1 : ¬ el a b=true) (h2 : ¬ el b a=true) : a=b:=by
 unfold el at h1 h2;simp only [Bool.or_eq_true,Bool.and_eq_true,decide_eq_true_eq,not_or,not_and] at h1 h2
 by_cases e : a.f0.toList=b.f0.toList
 ·
  have:=h1.2 e
  have:=h2.2 e.symm;have h3 : a.f1=b.f1:=by omega
  have h4 : a.f0=b.f0:=ba_ext e
  cases a;cases b;simp_all
 exact absurd (bl_total h1.1 e) h2.1
def Rise (l : List IEnt) : Prop:=l.Pairwise (fun a b=>el a b=true)
theorem ens_rise : ∀ (p : IEnt) (l : List IEnt),ens p l=true→Rise l
 | _,[],_=>List.Pairwise.nil
 | p,e :: l,h=>by
  have h':=h;simp only [ens,Bool.and_eq_true] at h';exact List.Pairwise.cons (fun x hx=>(ens_ahead _ _ h'.2.2 x hx).1) (ens_rise e l h'.2.2)
def up (e : IEnt) : List IEnt→Nat
 | []=>0
 | x :: xs=>if el x e=true then up e xs+1 else 0
theorem up_le (e : IEnt) : ∀ l : List IEnt,up e l≤l.length
 | []=>Nat.le_refl _
 | x :: xs=>by
  unfold up;have:=up_le e xs
  split
  ·
   simp only [List.length_cons];omega
  exact Nat.zero_le _
theorem up_before (e : IEnt) : ∀ (l : List IEnt) (j : Nat) (hj : j<l.length),j<up e l→el l[j] e=true
 | [],_,hj,_=>by simp at hj
 | x :: xs,j,hj,h=>by
  unfold up at h
  by_cases c : el x e=true
  ·
   rw [if_pos c] at h
   cases j with
   | zero=>exact c
   | succ j=>exact up_before e xs j (by simpa using hj) (by omega)
  rw [if_neg c] at h;omega
theorem up_at (e : IEnt) : ∀ (l : List IEnt) (h : up e l<l.length),¬ el l[up e l] e=true
 | [],h=>by simp at h
 | x :: xs,h=>by
  by_cases c : el x e=true
  ·
   have hu : up e (x :: xs)=up e xs+1:=by simp only [up,if_pos c]
   have h2 : up e xs<xs.length:=by rw [hu] at h;simpa using h
   have:=up_at e xs h2;simp only [hu,List.getElem_cons_succ];exact this
  have hu : up e (x :: xs)=0:=by simp only [up,if_neg c]
  simp only [hu,List.getElem_cons_zero];exact c
theorem rise_at {l : List IEnt} (hr : Rise l) (i j : Nat) (hi : i<l.length) (hj : j<l.length) (h : i<j) : el l[i] l[j]=true:=List.pairwise_iff_getElem.1 hr i j hi hj h
theorem up_is {l : List IEnt} (e : IEnt) (p : Nat) (hp : p≤l.length) (h1 : ∀ j (hj : j<l.length),j<p→el l[j] e=true) (h2 : ∀ j (hj : j<l.length),p≤j → ¬ el l[j] e=true) : up e l=p:=by
 have hl:=up_le e l;rcases Nat.lt_trichotomy (up e l) p with h|h|h
 ·
  exact absurd (h1 _ (by omega) h) (up_at e l (by omega))
 ·
  exact h
 exact absurd (up_before e l p (by omega) h) (h2 p (by omega) (Nat.le_refl _))
def th (e : IEnt) (l : List IEnt) : Bool:=if h : up e l<l.length then (decide (l[up e l].f0.toList=e.f0.toList) && decide (l[up e l].f1=e.f1)) else false
theorem ent_eq {a b : IEnt} (h0 : a.f0.toList=b.f0.toList) (h1 : a.f1=b.f1) : a=b:=by
 have:=ba_ext h0
 cases a;cases b;simp_all
theorem th_iff (e : IEnt) (l : List IEnt) : th e l=true ↔ ∃ h : up e l<l.length,l[up e l]=e:=by
 unfold th
 by_cases h : up e l<l.length
 ·
  rw [dif_pos h]
  simp only [Bool.and_eq_true,decide_eq_true_eq];exact ⟨fun h2=>⟨h,ent_eq h2.1 h2.2⟩,fun ⟨_,h2⟩=>by rw [h2];exact ⟨rfl,rfl⟩⟩
 rw [dif_neg h];exact ⟨fun h2=>absurd h2 (by decide),fun ⟨h2,_⟩=>absurd h2 h⟩
theorem at_none (e : IEnt) : ∀ (l : List IEnt) (i : Nat),(∀ x ∈ l,x≠e)→Fi.at l e.f0 e.f1 i=none
 | [],_,_=>rfl
 | x :: xs,i,h=>by
  have hx:=h x (by simp)
  have hc : (!(x.f0.toList == e.f0.toList) || (!(x.f1 == e.f1)))=true:=by
   by_cases h0 : x.f0.toList=e.f0.toList
   ·
    have h1 : ¬ x.f1=e.f1:=fun h1=>hx (ent_eq h0 h1)
    simp [h1]
   simp [h0]
  simp only [Fi.at];rw [if_pos hc];exact at_none e xs (i+1) (fun y hy=>h y (by simp [hy]))
theorem at_drop (e : IEnt) : ∀ (l : List IEnt) (i : Nat),Rise l→Fi.at l e.f0 e.f1 i=if th e l=true then some (i+up e l) else none
 | [],i,_=>rfl
 | x :: xs,i,hr=>by
  have hr2:=List.pairwise_cons.1 hr
  by_cases c : el x e=true
  ·
   have hu : up e (x :: xs)=up e xs+1:=by simp only [up,if_pos c]
   have hc : (!(x.f0.toList == e.f0.toList) || (!(x.f1 == e.f1)))=true:=by
    by_cases h0 : x.f0.toList=e.f0.toList
    ·
     have h1 : ¬ x.f1=e.f1:=fun h1=>by
      have:=ent_eq h0 h1;subst this;rw [el_irrefl] at c;cases c
     simp [h1]
    simp [h0]
   have ht : th e (x :: xs)=th e xs:=by
    rw [Bool.eq_iff_iff,th_iff,th_iff];simp only [hu,List.length_cons,Nat.add_lt_add_iff_right,List.getElem_cons_succ]
   simp only [Fi.at];rw [if_pos hc,at_drop e xs (i+1) hr2.2,ht,hu]
   split
   ·
    congr 1;omega
   rfl
  have hu : up e (x :: xs)=0:=by simp only [up,if_neg c]
  by_cases h0 : x=e
  ·
   subst h0
   have ht : th x (x :: xs)=true:=(th_iff _ _).2 ⟨by rw [hu];simp,by simp only [hu];rfl⟩;rw [if_pos ht,hu];simp [Fi.at]
  have ht : ¬ th e (x :: xs)=true:=by
   rw [th_iff];rintro ⟨h,h2⟩;simp only [hu,List.getElem_cons_zero] at h2;exact h0 h2
  rw [if_neg ht];refine at_none e _ i (fun y hy hye=>?_);rcases List.mem_cons.1 hy with h3|h3
  ·
   exact h0 (h3.symm.trans hye)
  exact c (hye ▸ hr2.1 y h3)
theorem own_tells (T : List IPag) (n : Int) (hT : T.length≤1048576) (hp : ∀ p ∈ T,p.f1.length≤1048576) : Eve (fun k=>F7.f k T n) (T,n):=by
 simp only [F7.f]
 have:=ev_loop0 T (fun k (o : List IPag) i=>F7.l0 k o i T n) (fun _ o r=>(o++r,n)) (fun i o=>o.length=i) (fun o ho=>by
  simp only [F7.l0]
  exact Eve.ite (fun h=>absurd h (by omega)) (fun _=>Eve.one.eq (by simp))) (fun i hi o ho ih=>by
  have hpi:=hp _ (List.getElem_mem hi);simp only [F7.l0,Option.bind_some,rdIP _ _ hi,wi (show i≤9223372036854775806 by omega),List.length_nil,List.nil_append];refine Eve.ite (fun _=>?_) (fun h=>absurd (by omega) h);refine Eve.ite (fun _=>?_) (fun h=>absurd (by omega) h);refine Eve.ite (fun _=>?_) (fun h=>absurd (by omega) h);refine Eve.ite (fun _=>?_) (fun h=>absurd (by omega) h)
  exact (ih _ (by simp [ho])).eq (by rw [List.append_assoc];rfl)) [] rfl
 simpa using this
def pgN (T : List IPag) (e : IEnt) : Nat:=(place e 0 0 T).toNat
theorem pg_lt {T : List IPag} (e : IEnt) (h : 0<T.length) : pgN T e<T.length∧place e 0 0 T=(pgN T e : Int):=by
 have:=place_in e T 0 0 (by omega) (by omega);unfold pgN
 omega
def cutP (T : List IPag) (j i : Nat) (p : IPag) : List IPag:=if p.f1.length=1∧1<T.length then ((T.set j ⟨p.f0,p.f1.take i++p.f1.drop (i+1)⟩).take j)++((T.set j ⟨p.f0,p.f1.take i++p.f1.drop (i+1)⟩).drop (j+1)) else T.set j ⟨p.f0,p.f1.take i++p.f1.drop (i+1)⟩
def pageN (T : List IPag) (e : IEnt) : IPag:=T.getD (pgN T e) ⟨0,[]⟩
def dropT (T : List IPag) (e : IEnt) : List IPag:=cutP T (pgN T e) (up e (pageN T e).f1) (pageN T e)
theorem pageN_at {T : List IPag} (e : IEnt) (h : 0<T.length) : pageN T e=T[pgN T e]'(pg_lt e h).1:=by
 unfold pageN;rw [List.getD_eq_getElem?_getD,List.getElem?_eq_getElem (pg_lt e h).1];rfl
theorem rd_page {T : List IPag} (e : IEnt) (h : 0<T.length) : rd_T67 T (place e 0 0 T)=pageN T e:=by
 rw [(pg_lt e h).2,rdIP _ _ (pg_lt e h).1,pageN_at e h]
theorem flat_page {T : List IPag} {p : IPag} (h : p ∈ T) : p.f1.Sublist (T.flatMap (·.f1)):=by
 obtain ⟨i,hi,rfl⟩:=List.getElem_of_mem h
 have : T.flatMap (·.f1)=(T.take i).flatMap (·.f1)++(T[i].f1++(T.drop (i+1)).flatMap (·.f1)):=by
  conv=>lhs;rw [← List.take_append_drop i T,drop_at T i hi,List.flatMap_append,List.flatMap_cons]
 rw [this];exact (List.sublist_append_left _ _).trans (List.sublist_append_right _ _)
theorem page_rise {T : List IPag} (hr : Rise (T.flatMap (·.f1))) {p : IPag} (h : p ∈ T) : Rise p.f1:=List.Pairwise.sublist (flat_page h) hr
theorem drop_spec (T : List IPag) (n : Int) (e : IEnt) (hT : T.length≤1000000) (hp : ∀ p ∈ T,p.f1.length≤1000000) (h0 : 0<T.length) (hr : Rise (T.flatMap (·.f1))) :
  Eve (fun k=>Fi.f k T n e.f0 e.f1) (if th e (pageN T e).f1=true then (dropT T e,n,0) else (T,n,5)):=by
 simp only [Fi.f];have hpl:=place_spec T n e (by omega) h0;rw [← place_from _ _ h0] at hpl;refine Eve.bind hpl ?_;have hin:=place_in e T 0 0 (by omega) (by omega);have hg:=pg_lt e h0;have hpm : pageN T e ∈ T:=by rw [pageN_at e h0];exact List.getElem_mem _
 rw [rd_page e h0,show (place e 0 0 T).toNat=pgN T e from rfl];refine Eve.ite (fun _=>?_) (fun h=>absurd hin.1 h);refine Eve.ite (fun _=>?_) (fun h=>absurd (by omega) h);refine Eve.ite (fun _=>?_) (fun h=>absurd ⟨by omega,hp _ hpm⟩ h);rw [at_drop e _ 0 (page_rise hr hpm)]
 by_cases ht : th e (pageN T e).f1=true
 ·
  simp only [if_pos ht,Nat.zero_add]
  refine Eve.bind (own_tells T n (by omega) (fun p hp2=>by have:=hp p hp2;omega)) ?_;refine Eve.ite (fun _=>?_) (fun h=>absurd ⟨by simp only [hg.2];omega,by simp only [];omega⟩ h);have hrd : rd_T67 T (place e 0 0 T)=pageN T e:=rd_page e h0;simp only [hrd];unfold dropT cutP;refine Eve.ite (fun h=>Eve.one.eq (by rw [if_pos h])) (fun h=>Eve.one.eq (by rw [if_neg h]))
 simp only [if_neg ht];exact Eve.one
theorem half_at (a b n : Nat) (h : a≤n) (h2 : b≤n) (hn : n≤1048576) : wrap64 ((IntKind.u64.wrap (wrap64 ((a : Int)+(b : Int)))) / 2)=(((a+b) / 2 : Nat) : Int):=by
 rw [w64 (show -9223372036854775808≤(a : Int)+(b : Int) by omega) (by omega),show IntKind.u64.wrap ((a : Int)+(b : Int))=((a : Int)+(b : Int)) % 18446744073709551616 from rfl,w64 (by omega) (by omega)]
 omega
theorem ce_neg (a b : IEnt) : ce a b<0↔el a b=true:=by
 have:=ce_lt a b
 by_cases h : el a b=true
 ·
  exact ⟨fun _=>h,fun _=>by
   by_cases h2 : ce a b ≥ 0
   ·
    exact absurd h (this.1 h2)
   omega⟩
 exact ⟨fun h2=>absurd (this.2 h) (by omega),fun h2=>absurd h2 h⟩
theorem ce_zero (a b : IEnt) : ce a b=0↔a=b:=by
 constructor
 ·
  intro h
  exact el_total ((ce_lt a b).1 (by omega)) ((ce_le a b).1 (by omega))
 rintro rfl;have h1:=(ce_lt a a).2 (by rw [el_irrefl];decide);have h2:=(ce_le a a).2 (by rw [el_irrefl];decide)
 omega
theorem half_ents (l : List IEnt) (e : IEnt) (hl : l.length≤1048576) (hr : Rise l) :
  ∀ (d a b : Nat),b - a≤d→a≤b→b≤l.length→(∀ j (hj : j<l.length),j<a→el l[j] e=true)→(∀ j (hj : j<l.length),b≤j → ¬ el l[j] e=true) →
   Eve (fun k=>F4.l0 k l (l.length : Int) (a : Int) (b : Int) e.f0 e.f1) ((up e l : Int),th e l):=by
 intro d
 induction d with
 | zero =>
  intro a b hd hab hb h1 h2;obtain rfl : a=b:=by omega
  have hu : up e l=a:=up_is e a hb h1 h2;rw [hu];refine Eve.succ ?_;simp only [F4.l0];refine Eve.ite (fun h=>absurd h (by omega)) (fun _=>?_)
  by_cases h : a<l.length
  ·
   simp only [rdIE l a h]
   refine Eve.ite (fun _=>Eve.ite (fun _=>Eve.ite (fun _=>Eve.bind (compare_tells l[a] e) (Eve.one.eq ?_)) (fun h=>absurd (by omega) h)) (fun h=>absurd (by omega) h)) (fun h=>absurd (by omega) h);have hz:=ce_zero l[a] e
   have : (ce l[a] e == 0)=th e l:=by
    rw [Bool.eq_iff_iff,th_iff,beq_iff_eq,hz];simp only [hu];exact ⟨fun h3=>⟨h,h3⟩,fun ⟨_,h3⟩=>h3⟩
   rw [this]
  have ht : th e l=false:=by
   unfold th;rw [dif_neg (by rw [hu];exact h)]
  rw [ht];exact Eve.ite (fun h=>absurd h (by omega)) (fun _=>Eve.one)
 | succ d ih =>
  intro a b hd hab hb h1 h2
  by_cases hlt : a<b
  ·
   have hm:=half_at a b l.length (by omega) hb hl
   have hq : (a+b) / 2<l.length:=by omega
   refine Eve.succ ?_;simp only [F4.l0,hm,rdIE l _ hq,wi (show (a+b) / 2≤9223372036854775806 by omega)];refine Eve.ite (fun _=>?_) (fun h=>absurd (by omega) h);refine Eve.ite (fun _=>?_) (fun h=>absurd (by omega) h);refine Eve.ite (fun _=>?_) (fun h=>absurd (by omega) h);refine Eve.bind (compare_tells l[(a+b) / 2] e) ?_;refine Eve.ite (fun hc=>?_) (fun hc=>?_)
   ·
    have hc:=(ce_neg _ _).1 hc
    exact ih ((a+b) / 2+1) b (by omega) (by omega) hb (fun j hj hjm=>by
     by_cases e1 : j=(a+b) / 2
     ·
      subst e1;exact hc
     exact el_trans (rise_at hr j _ hj hq (by omega)) hc) h2
   have hc : ¬ el l[(a+b) / 2] e=true:=fun h=>hc ((ce_neg _ _).2 h)
   exact ih a ((a+b) / 2) (by omega) (by omega) (by omega) h1 (fun j hj hjm=>by
    by_cases e1 : j=(a+b) / 2
    ·
     subst e1;exact hc
    exact fun hlt2=>hc (el_trans (rise_at hr _ j hq hj (by omega)) hlt2))
  exact ih a b (by omega) hab hb h1 h2
theorem find_tells (T : List IPag) (n : Int) (e : IEnt) (hT : T.length≤1000000) (hp : ∀ p ∈ T,p.f1.length≤1000000) (h0 : 0<T.length) (hr : Rise (T.flatMap (·.f1))) :
  Eve (fun k=>F02.f k T n e.f0 e.f1) (place e 0 0 T,(up e (pageN T e).f1 : Int),th e (pageN T e).f1):=by
 simp only [F02.f];refine Eve.bind (place_impl T n e (by omega)) ?_;have hin:=place_in e T 0 0 (by omega) (by omega);have hpm : pageN T e ∈ T:=by rw [pageN_at e h0];exact List.getElem_mem _
 rw [rd_page e h0];refine Eve.ite (fun _=>?_) (fun h=>absurd hin.1 h);refine Eve.ite (fun _=>?_) (fun h=>absurd (by omega) h);simp only [F4.f];have:=hp _ hpm;refine Eve.bind (half_ents (pageN T e).f1 e (by omega) (page_rise hr hpm) _ 0 (pageN T e).f1.length (by omega) (Nat.zero_le _) (Nat.le_refl _) (fun j _ h=>absurd h (by omega)) (fun j hj h=>absurd hj (by omega))) ?_;exact Eve.one
theorem clone_tells (T : List IPag) (n : Int) (hT : T.length≤1048576) (hp : ∀ p ∈ T,p.f1.length≤1048576) : Eve (fun k=>Fe.f k T n) (T,n):=by
 simp only [Fe.f]
 have:=ev_loop0 T (fun k (o : List IPag) i=>Fe.l0 k T (T.length : Int) i o n) (fun _ o r=>(o++r,n)) (fun i o=>o.length=i) (fun o ho=>by
  simp only [Fe.l0]
  exact Eve.ite (fun h=>absurd h (by omega)) (fun _=>Eve.one.eq (by simp))) (fun i hi o ho ih=>by
  have hpi:=hp _ (List.getElem_mem hi)
  have hc : F07.f T[i].f1=some T[i].f1:=by
   unfold F07.f;rw [if_pos (by omega)]
  simp only [Fe.l0,Option.bind_some,rdIP _ _ hi,wi (show i≤9223372036854775806 by omega),hc];refine Eve.ite (fun _=>?_) (fun h=>absurd (by omega) h);refine Eve.ite (fun _=>?_) (fun h=>absurd (by omega) h);refine Eve.ite (fun _=>?_) (fun h=>absurd (by omega) h);refine Eve.ite (fun _=>?_) (fun h=>absurd (by omega) h)
  exact (ih _ (by simp [ho])).eq (by rw [List.append_assoc];rfl)) [] rfl
 simpa using this
theorem erase_is {α : Type} (l : List α) (i : Nat) : l.eraseIdx i=l.take i++l.drop (i+1):=List.eraseIdx_eq_take_drop_succ l i
theorem drop_impl (T : List IPag) (n : Int) (e : IEnt) (hT : T.length≤1000000) (hp : ∀ p ∈ T,p.f1.length≤1000000) (h0 : 0<T.length) (hr : Rise (T.flatMap (·.f1))) :
  Eve (fun k=>F09.f k T n e.f0 e.f1) (if th e (pageN T e).f1=true then (true,dropT T e) else (false,T)):=by
 simp only [F09.f];refine Eve.bind (find_tells T n e hT hp h0 hr) ?_;have hg:=pg_lt e h0;have hpm : pageN T e ∈ T:=by rw [pageN_at e h0];exact List.getElem_mem _
 have hpl:=hp _ hpm;simp only [rd_page e h0,show (place e 0 0 T).toNat=pgN T e from rfl];refine Eve.ite (fun ht=>?_) (fun ht=>Eve.one.eq (by rw [if_neg ht]));rw [if_pos ht];obtain ⟨hu,-⟩:=(th_iff _ _).1 ht;refine Eve.ite (fun _=>?_) (fun h=>absurd (by omega) h);refine Eve.ite (fun _=>?_) (fun h=>absurd (by omega) h);refine Eve.ite (fun _=>?_) (fun h=>absurd (by omega) h)
 have he : Fx.f (pageN T e).f1 (up e (pageN T e).f1 : Int) (wrap64 ((up e (pageN T e).f1 : Int)+1))=some ((pageN T e).f1.eraseIdx (up e (pageN T e).f1)):=by
  unfold Fx.f;rw [if_pos (by omega),if_pos (by omega),if_pos (by rw [w64] <;> omega),if_pos (by omega),Int.toNat_natCast]
 rw [he];simp only [Option.bind_some];have hel : ((pageN T e).f1.eraseIdx (up e (pageN T e).f1)).length=(pageN T e).f1.length - 1:=by rw [List.length_eraseIdx,if_pos hu]
 unfold dropT cutP;rw [hel];refine Eve.ite (fun hc=>?_) (fun hc=>Eve.one.eq ?_)
 ·
  rw [if_pos ⟨by omega,hc.2⟩]
  have hd : Fw.f (T.set (pgN T e) ⟨(pageN T e).f0,(pageN T e).f1.eraseIdx (up e (pageN T e).f1)⟩) (place e 0 0 T) (wrap64 (place e 0 0 T+1))=some ((T.set (pgN T e) ⟨(pageN T e).f0,(pageN T e).f1.eraseIdx (up e (pageN T e).f1)⟩).eraseIdx (pgN T e)):=by
   unfold Fw.f;rw [List.length_set,if_pos (by omega),if_pos (by omega),if_pos (by rw [w64] <;> omega),if_pos (by omega)]
   rfl
  rw [hd];exact Eve.one.eq (by rw [erase_is,erase_is])
 rw [if_neg (fun h=>hc ⟨by omega,h.2⟩),erase_is]
def dropA (T : List IPag) (n : Int) (e : IEnt) : List IPag×Int×Int:=if tok T n=true∧eok e=true then (if th e (pageN T e).f1=true then (dropT T e,n,0) else (T,n,5)) else ([],0,1)
theorem poks_small (T : List IPag) (n : Int) : ∀ (ps : List IPag) (seen : List Int),poks T n seen ps=true → ∀ p ∈ ps,p.f1.length≤4
 | [],_,_,p,hp=>by cases hp
 | q :: ps,seen,h,p,hp=>by
  simp only [poks,pok,Bool.and_eq_true,decide_eq_true_eq] at h;rcases List.mem_cons.1 hp with rfl|hp
  ·
   omega
  exact poks_small T n ps _ h.2 p hp
theorem tok_facts {T : List IPag} {n : Int} (h : tok T n=true) : 0<T.length∧T.length≤60∧Rise (T.flatMap (·.f1)) ∧ ∀ p ∈ T,p.f1.length≤4:=by
 simp only [tok,inr,Bool.and_eq_true,decide_eq_true_eq] at h;exact ⟨by omega,by omega,ens_rise _ _ h.2.2.2,poks_small T n T [] h.2.2.1⟩
theorem cut_pages (T : List IPag) (j i : Nat) (p q : IPag) (h : q ∈ cutP T j i p) : q ∈ T∨q=⟨p.f0,p.f1.take i++p.f1.drop (i+1)⟩:=by
 have hs : ∀ q,q ∈ T.set j ⟨p.f0,p.f1.take i++p.f1.drop (i+1)⟩→q ∈ T∨q=⟨p.f0,p.f1.take i++p.f1.drop (i+1)⟩:=fun q hq=>List.mem_or_eq_of_mem_set hq;unfold cutP at h
 split at h
 ·
  rcases List.mem_append.1 h with h|h
  ·
   exact hs _ (List.mem_of_mem_take h)
  exact hs _ (List.mem_of_mem_drop h)
 exact hs _ h
theorem cut_length (T : List IPag) (j i : Nat) (p : IPag) : (cutP T j i p).length≤T.length:=by
 unfold cutP
 split
 ·
  simp only [List.length_append,List.length_take,List.length_drop,List.length_set];omega
 simp
theorem cut_row (l : List IEnt) (i : Nat) : (l.take i++l.drop (i+1)).length≤l.length:=by
 simp only [List.length_append,List.length_take,List.length_drop];omega
theorem dropA_small (T : List IPag) (n : Int) (e : IEnt) : (dropA T n e).1.length≤60 ∧ ∀ p ∈ (dropA T n e).1,p.f1.length≤4:=by
 unfold dropA
 split
 ·
  rename_i hk
  obtain ⟨h0,h1,-,hp⟩:=tok_facts hk.1
  split
  ·
   refine ⟨Nat.le_trans (cut_length _ _ _ _) h1,fun q hq=>?_⟩
   rcases cut_pages _ _ _ _ _ hq with h|rfl
   ·
    exact hp q h
   exact Nat.le_trans (cut_row _ _) (hp _ (by rw [pageN_at e h0];exact List.getElem_mem _))
  exact ⟨h1,hp⟩
 simp
theorem treeDrop_impl (T : List IPag) (n : Int) (e : IEnt) (hT : T.length≤1048576) (hf : (T.flatMap (·.f1)).length≤1048576) : Eve (fun k=>F04.f k T n e.f0 e.f1) (dropA T n e):=by
 have hsm:=dropA_small T n e;simp only [F04.f];refine Eve.bind (implOK_tells T n (by omega) hf) ?_;refine Eve.ite (fun hk=>?_) (fun hk=>Eve.one.eq (by unfold dropA;rw [if_neg (fun h=>hk h.1)]));rw [eok_impl];simp only [Option.bind_some];refine Eve.ite (fun he=>?_) (fun he=>Eve.one.eq (by unfold dropA;rw [if_neg (fun h=>he h.2)]));obtain ⟨h0,h60,hr,hp⟩:=tok_facts hk;refine Eve.bind (clone_tells T n (by omega) (fun p h=>by have:=hp p h;omega)) ?_;refine Eve.bind (drop_impl T n e (by omega) (fun p h=>by have:=hp p h;omega) h0 hr) ?_;have hA : dropA T n e=if th e (pageN T e).f1=true then (dropT T e,n,0) else (T,n,5):=by unfold dropA;exact if_pos ⟨hk,he⟩
 rw [hA] at hsm ⊢
 by_cases ht : th e (pageN T e).f1=true
 ·
  simp only [if_pos ht,if_true] at hsm ⊢
  exact Eve.bind (clone_tells (dropT T e) n (by have:=hsm.1;omega) (fun p h=>by have:=hsm.2 p h;omega)) Eve.one
 simp only [if_neg ht] at hsm ⊢;exact Eve.ite (fun h=>by cases h) (fun _=>Eve.one)
theorem treeDrop_spec (T : List IPag) (n : Int) (e : IEnt) (hT : T.length≤1048576) (hp : ∀ p ∈ T,p.f1.length≤1048576) : Eve (fun k=>Fj.f k T n e.f0 e.f1) (dropA T n e):=by
 have hsm:=dropA_small T n e;have hj : ∀ v,v=([],0,1)→Eve (fun k=>Fj.j0 k true T n e.f0 e.f1) v:=fun v hv=>Eve.succ (by simp only [Fj.j0,if_true];exact Eve.one.eq hv.symm);simp only [Fj.f];refine Eve.bind (specOK_tells T n (by omega) (fun p h=>by have:=hp p h;omega)) ?_;refine Eve.ite (fun hk=>?_) (fun hk=>hj _ (by unfold dropA;rw [if_neg (fun h=>hk h.1)]));rw [eok_spec];simp only [Option.bind_some]
 cases he : eok e with
 | false=>exact hj _ (by unfold dropA;rw [if_neg (fun h=>by rw [he] at h;exact absurd h.2 (by decide))])
 | true =>
  obtain ⟨h0,h60,hr,hp4⟩:=tok_facts hk;refine Eve.succ ?_;simp only [Fj.j0,Bool.not_true,Bool.false_eq_true,if_false];refine Eve.bind (drop_spec T n e (by omega) (fun p h=>by have:=hp4 p h;omega) h0 hr) ?_;have hA : dropA T n e=if th e (pageN T e).f1=true then (dropT T e,n,0) else (T,n,5):=by unfold dropA;exact if_pos ⟨hk,he⟩
  rw [hA] at hsm ⊢
  by_cases ht : th e (pageN T e).f1=true
  ·
   simp only [if_pos ht] at hsm ⊢
   exact Eve.bind (own_tells (dropT T e) n (by have:=hsm.1;omega) (fun p h=>by have:=hsm.2 p h;omega)) Eve.one
  simp only [if_neg ht] at hsm ⊢;exact Eve.bind (own_tells T n (by omega) (fun p h=>by have:=hp p h;omega)) Eve.one
end Go.Proofs.Ytamikhmpfmgofaa.Pure
end
section
namespace Go.Proofs.Ytamikhmpfmgofaa.Q
open Go.RowKit Go.Proofs.YtamikhmpfmgofaaW.PrintWords Go.Proofs.YtamikhmpfmgofaaW.PrintLast Go.Proofs.YtamikhmpfmgofaaW.PrintMore
attribute [local go_sem] max2_int min2_int max_two min_two max_three min_three max_four min_four max2_str min2_str str_geq str_gtr str_leq
set_option linter.unusedVariables false
set_option linter.unusedSimpArgs false

def Fu.l0 : Nat→List Int→List Int→Int→Option (Bool)
 | 0,_,_,_=>none
 | k+1,x0,x1,x5=>if x5<(x0.length : Int) then (if 0≤x5 then (if x5<(x1.length : Int) then (if (rd x0 x5)=(rd x1 x5) then (Fu.l0 k x0 x1 (wrap64 (x5+1))) else (some false)) else (none)) else (none)) else (some true)
def Fu.f (k : Nat) (l0 : List Int) (l1 : List Int) : Option (Bool):=if (l0.length : Int)=(l1.length : Int) then (Fu.l0 k l0 l1 0) else (some false)
theorem Fu.mono_l : ∀ k,(∀ y0 y1 y2,LeO (Fu.l0 k y0 y1 y2) (Fu.l0 (k+1) y0 y1 y2))
 | 0=>fun _ _ _ r h=>by simp [Fu.l0] at h
 | k+1=>by
  have ih0:=Fu.mono_l k;intro y0 y1 y2;unfold Fu.l0
  repeat' first|(with_reducible first|exact ih0 _ _ _|exact zQ _|exact zN _|refine zP ?_ ?_|refine zO ?_ (fun _=>?_))|refine zP ?_ ?_|refine zO ?_ (fun _=>?_)
theorem Fu.mono : ∀ a0 a1 k,LeO (Fu.f k a0 a1) (Fu.f (k+1) a0 a1):=by
 intro a0 a1 k;have ih0:=Fu.mono_l k;unfold Fu.f
 repeat' first|(with_reducible first|exact ih0 _ _ _|exact zQ _|exact zN _|refine zP ?_ ?_|refine zO ?_ (fun _=>?_))|refine zP ?_ ?_|refine zO ?_ (fun _=>?_)
set_option maxHeartbeats 8000000 in
set_option maxRecDepth 100000 in
theorem Fu.calls (k : Nat) (A0 : Option Addr) (c0 : Nat) (l0 : List Int) (A1 : Option Addr) (c1 : Nat) (l1 : List Int) (r : Bool) (w : World) (hr0 : Kd.C (Kd.int .i64) w A0 l0.length l0) (hc0 : l0.length≤c0) (hr1 : Kd.C (Kd.int .i64) w A1 l1.length l1) (hc1 : l1.length≤c1) (h : Fu.f k l0 l1=some r) :
  Calls Try.prog 13 #[.slice A0 l0.length c0,.slice A1 l1.length c1] w fun e w' => e = .returned (.bool r)∧Drawn0 w w':=by
 have HR0:=zh hr0;have HC0:=zh hc0;clear hr0 hc0;have HR1:=zh hr1;have HC1:=zh hc1;clear hr1 hc1;have H : (if (l0.length : Int)=(l1.length : Int) then (Fu.l0 k l0 l1 0) else (some false))=some r:=h;clear h
 by_cases c3 : (l0.length : Int)=(l1.length : Int)
 ·
  rw [if_pos c3] at H
  have c3b0 : ((l0.length : Int) == (l1.length : Int))=true:=ya.mpr c3;have c3b1 : ((l0.length : Int) != (l1.length : Int))=false:=zX.mpr c3;have c3b2 : (l0.length == l1.length)=true:=by first|simpa using c3|(simp at c3 ⊢;omega)
  clear c3;have H':=zh H;clear H
  go_enter Try.func13,Try.ntmps13
  go_wp2
  repeat (go_quiet (fail);try go_wp2)
  go_loopg [5] k (fun kq v5 w' => ∃ (x5_1 : Int),v5 = .int .i64 x5_1∧Aside0 (Fu.l0 kq l0 l1 x5_1=some r)∧Aside0 (kq≤k)∧Drawn0 w w')
  case atStart=>exact ⟨(0),jD,H',⟨ye _⟩,jI⟩
  case round =>
   clear H'
   try clear c1
   try clear p2
   try clear c3 c3b0 c3b1 c3b2
   obtain ⟨x5_1,rfl,HA,HK1,⟨m1,rfl⟩⟩:=hrel
   cases gk with
   | zero=>exact absurd HA.out (by simp [Fu.l0])
   | succ k1 =>
    have H:=HA.out;clear HA;simp only [Fu.l0] at H
    by_cases c4 : x5_1<(l0.length : Int)
    ·
     rw [if_pos c4] at H
     have c4b0 : decide (x5_1<(l0.length : Int))=true:=decide_eq_true c4;clear c4
     by_cases c5 : 0≤x5_1
     ·
      rw [if_pos c5] at H
      have c5b0 : decide (0≤x5_1)=true:=decide_eq_true c5;clear c5
      by_cases c6 : x5_1<(l1.length : Int)
      ·
       rw [if_pos c6] at H
       have c6b0 : decide (x5_1<(l1.length : Int))=true:=decide_eq_true c6;clear c6
       by_cases c7 : (rd l0 x5_1)=(rd l1 x5_1)
       ·
        rw [if_pos c7] at H
        have c7b0 : ((rd l0 x5_1) == (rd l1 x5_1))=true:=ya.mpr c7;have c7b1 : ((rd l0 x5_1) != (rd l1 x5_1))=false:=zX.mpr c7;clear c7;have H':=zh H;clear H;have p298 : 0≤(x5_1 : Int):=zy jB;have q298 : x5_1<(l0.length : Int):=zy jB;obtain ⟨ad298,e298,hx298_0⟩:=Kd.at_int HR0.out x5_1 p298 q298
        cases e298
        replace p298:=eq_true p298;replace q298:=eq_true q298;have p299 : 0≤(x5_1 : Int):=zy jB;have q299 : x5_1<(l1.length : Int):=zy jB;obtain ⟨ad299,e299,hx299_0⟩:=Kd.at_int HR1.out x5_1 p299 q299
        cases e299
        replace p299:=eq_true p299;replace q299:=eq_true q299
        go_wp2
        repeat (go_quiet (fail);try go_wp2)
        go_roundg k1
        case measure=>have:=HK1.out;omega
        case rel=>exact ⟨(wrap64 (x5_1+1)),jD,H',⟨jK⟩,jI⟩
       rw [if_neg c7] at H;have c7b0 : ((rd l0 x5_1) == (rd l1 x5_1))=false:=zY.mpr c7;have c7b1 : ((rd l0 x5_1) != (rd l1 x5_1))=true:=zZ.mpr c7;obtain rfl:=zU H;have p298 : 0≤(x5_1 : Int):=zy jB;have q298 : x5_1<(l0.length : Int):=zy jB;obtain ⟨ad298,e298,hx298_0⟩:=Kd.at_int HR0.out x5_1 p298 q298
       cases e298
       replace p298:=eq_true p298;replace q298:=eq_true q298;have p299 : 0≤(x5_1 : Int):=zy jB;have q299 : x5_1<(l1.length : Int):=zy jB;obtain ⟨ad299,e299,hx299_0⟩:=Kd.at_int HR1.out x5_1 p299 q299
       cases e299
       replace p299:=eq_true p299;replace q299:=eq_true q299
       go_wp2
       repeat (go_quiet (fail);try go_wp2)
       go_ret
       exact ⟨jD,jI⟩
      rw [if_neg c6] at H;exact absurd H (by simp)
     rw [if_neg c5] at H;exact absurd H (by simp)
    rw [if_neg c4] at H;have c4b0 : decide (x5_1<(l0.length : Int))=false:=decide_eq_false c4;clear c4;obtain rfl:=zU H
    go_wp2
    repeat (go_quiet (fail);try go_wp2)
    go_ret
    exact ⟨jD,jI⟩
 rw [if_neg c3] at H;have c3b0 : ((l0.length : Int) == (l1.length : Int))=false:=zY.mpr c3;have c3b1 : ((l0.length : Int) != (l1.length : Int))=true:=zZ.mpr c3;have c3b2 : (l0.length == l1.length)=false:=by first|simpa using c3|(simp at c3 ⊢;omega)
 obtain rfl:=zU H
 go_enter Try.func13,Try.ntmps13
 go_wp2
 repeat (go_quiet (fail);try go_wp2)
 go_ret
 exact ⟨jD,jI⟩


def Ft.l0 : Nat→List Int→Int→Int→Option (Int×List Int)
 | 0,_,_,_=>none
 | k+1,x0,x1,x5=>if x5<(x0.length : Int) then (if 0≤x5 then (Ft.l0 k (x0.set (x5 : Int).toNat x1) (wrap64 (x1+1)) (wrap64 (x5+1))) else (none)) else (some (x1,x0))
def Ft.f (k : Nat) (l0 : List Int) (a1 : Int) : Option (Int×List Int):=Ft.l0 k l0 a1 0
theorem Ft.mono_l : ∀ k,(∀ y0 y1 y2,LeO (Ft.l0 k y0 y1 y2) (Ft.l0 (k+1) y0 y1 y2))
 | 0=>fun _ _ _ r h=>by simp [Ft.l0] at h
 | k+1=>by
  have ih0:=Ft.mono_l k;intro y0 y1 y2;unfold Ft.l0
  repeat' first|(with_reducible first|exact ih0 _ _ _|exact zQ _|exact zN _|refine zP ?_ ?_|refine zO ?_ (fun _=>?_))|refine zP ?_ ?_|refine zO ?_ (fun _=>?_)
theorem Ft.mono : ∀ a0 a1 k,LeO (Ft.f k a0 a1) (Ft.f (k+1) a0 a1):=by
 intro a0 a1 k;have ih0:=Ft.mono_l k;unfold Ft.f
 repeat' first|(with_reducible first|exact ih0 _ _ _|exact zQ _|exact zN _|refine zP ?_ ?_|refine zO ?_ (fun _=>?_))|refine zP ?_ ?_|refine zO ?_ (fun _=>?_)
set_option maxHeartbeats 8000000 in
set_option maxRecDepth 100000 in
theorem Ft.calls (k : Nat) (P0_ : Nat→Prop) (u9000_ : Value) (l0 : List Int) (a1 : Int) (r1 : Int) (r2 : List Int) (w0 w : World) (hB : Below w0.heap.size w0 w) (ho0 : Kd.R (Kd.int .i64) 3 w w0.heap.size P0_ u9000_ l0) (h : Ft.f k l0 a1=some (r1,r2)) :
  Calls Try.prog 17 #[u9000_,.int .i64 a1] w fun e w' => e = .returned (.int .i64 r1)∧Kd.R (Kd.int .i64) 3 w' w0.heap.size (fun k_=>(P0_ k_∨w.heap.size≤k_)) u9000_ r2∧Below w0.heap.size w0 w' ∧ Kept w w' (fun k_=>P0_ k_):=by
 have HO0:=zh (show Kd.R (Kd.int .i64) 3 w w0.heap.size (fun k_=>(P0_ k_∨w.heap.size≤k_)) u9000_ l0 from zM ho0 (fun k_ hk=>(.inl hk)));have HK:=zh (Kept.refl w (fun k_=>P0_ k_));have HW0:=zh hB.size;have HB:=zh hB;clear hB;have H : (Ft.l0 k l0 a1 0)=some (r1,r2):=h;clear h;have H':=zh H;clear H
 go_enter Try.func17,Try.ntmps17
 go_wp2
 go_loopg [1,5] k (fun kq v1 v5 w' => ∃ (x0_1 : List Int) (x1_1 : Int) (x5_1 : Int),v1 = .int .i64 x1_1∧v5 = .int .i64 x5_1∧Aside0 (Ft.l0 kq x0_1 x1_1 x5_1=some (r1,r2))∧Aside0 (kq≤k)∧Aside0 (Kd.R (Kd.int .i64) 3 w' w0.heap.size (fun k_=>(P0_ k_∨w.heap.size≤k_)) u9000_ x0_1)∧Aside0 (Kept w w' (fun k_=>P0_ k_))∧Aside0 (Below w0.heap.size w0 w'))
 case atStart=>exact ⟨(l0),(a1),(0),jD,jD,H',⟨ye _⟩,⟨jBH⟩,⟨jW⟩,⟨jE⟩⟩
 case round =>
  clear H'
  try clear c1
  try clear p2
  obtain ⟨x0_1,x1_1,x5_1,rfl,rfl,HA,HK1,HO_0,HK,HB⟩:=hrel
  cases gk with
  | zero=>exact absurd HA.out (by simp [Ft.l0])
  | succ k1 =>
   have H:=HA.out;clear HA;simp only [Ft.l0] at H
   by_cases c3 : x5_1<(x0_1.length : Int)
   ·
    rw [if_pos c3] at H
    have c3b0 : decide (x5_1<(x0_1.length : Int))=true:=decide_eq_true c3;clear c3
    by_cases c4 : 0≤x5_1
    ·
     rw [if_pos c4] at H
     have c4b0 : decide (0≤x5_1)=true:=decide_eq_true c4;clear c4;obtain ⟨y315,hy315⟩ : ∃ y_ : List Int,y_=(x0_1.set (x5_1 : Int).toNat x1_1):=⟨_,rfl⟩;replace H : (Ft.l0 k1 y315 (wrap64 (x1_1+1)) (wrap64 (x5_1+1)))=some (r1,r2):=by first|(rw [hy315];with_reducible exact H)|(have H2_:=(Option.bind_some _ _).symm.trans H;rw [hy315];with_reducible exact H2_)|(have H2_:=(Option.bind_some _ _).symm.trans H;with_reducible exact H2_)|with_reducible exact H|(rw [hy315];exact H)|exact H
     have Ny315:=zh hy315;clear hy315;have H':=zh H;clear H;obtain ⟨Ao6,co6,eo6⟩:=yk HO_0.out;subst eo6;have p5 : 0≤(x5_1 : Int):=zy jB;have q5 : (x5_1 : Int)<((x0_1.length : Int) : Int):=zy jB;obtain ⟨go5,co5,eo5,gb5,gl5,cl5,HG5⟩:=Kd.R_form HO_0.out jH;(first|cases eo5|(injection eo5 with ea_ en_ ec_;(first|subst ea_|(injection ea_ with ea_;subst ea_));subst ec_;clear en_));have GB5:=zh gb5;have GG5:=zh HG5;clear gb5 gl5 HG5;have HMgo5:=zh (show (P0_ go5∨w.heap.size≤go5) from (HO_0.out.1 _ rfl));obtain ⟨hx5_0,hf5_0⟩:=Kd.R_celln 0 HO_0.out (x5_1 : Int) p5 q5;replace p5:=eq_true p5;replace q5:=eq_true q5;have HP7:=Kd.R_putg HO_0.out (x5_1 : Int) x1_1
     go_wp2_with (first|((with_reducible refine gate_store (t:=3) (p:=15) rfl ?_);refine store_event (t:=3) (p:=15) (v:=?vo_w8) (w1:=(wr.setCell ⟨go5,(x5_1 : Int).toNat,none⟩ (.int .i64 x1_1))) ?hg ?ho ?hn ?hr ?_;(case ho=>rfl);(case hg=>rfl);(case hn=>rfl);(case hr=>go_simp <;> rfl);intro w8 hw;have hg : wr.grownBy w8 (some go5):=(by rw [hw];exact HP7.2);have hp_ : Kd.R (Kd.int .i64) 3 w8 w0.heap.size (fun k_=>(P0_ k_∨w.heap.size≤k_)) (.slice (some ⟨go5,0,none⟩) x0_1.length co6) y315:=(by rw [hw,Ny315.out];exact HP7.1);clear HP7;replace HB:=zh ((by rw [hw];exact zd (HB.out) GB5.out : Below w0.heap.size w0 w8));replace HK:=zh (yz (S:=(fun k_=>P0_ k_)) hg jW (fun k_ e_=>(HO_0.out.1 k_ e_)));replace HO_0:=zh (hp_);clear hg hw hp_))
     go_roundg k1
     case measure=>have:=HK1.out;omega
     case rel=>exact ⟨(y315),(wrap64 (x1_1+1)),(wrap64 (x5_1+1)),jD,jD,H',⟨jK⟩,⟨jp⟩,⟨jW⟩,⟨jE⟩⟩
    rw [if_neg c4] at H;exact absurd H (by simp)
   rw [if_neg c3] at H;have c3b0 : decide (x5_1<(x0_1.length : Int))=false:=decide_eq_false c3;clear c3;simp only [Option.some.injEq,Prod.mk.injEq] at H;obtain ⟨rfl,rfl⟩:=H;obtain ⟨Ao9,co9,eo9⟩:=yk HO_0.out;subst eo9
   go_wp2
   go_ret
   exact ⟨jG,jp,jE,jW⟩

end Go.Proofs.Ytamikhmpfmgofaa.Q
end
