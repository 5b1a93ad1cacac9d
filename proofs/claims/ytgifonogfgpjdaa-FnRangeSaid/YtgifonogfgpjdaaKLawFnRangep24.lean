/- Texts of this claim, merged by a program of this session. -/
import Derived.Test.YtgifonogfgpjdaaKLawFnRangep23
section
namespace Go.Proofs.Ytgifonogfgpjdaa.Q
open Go.RowKit Go.Proofs.YtgifonogfgpjdaaW.PrintWords Go.Proofs.YtgifonogfgpjdaaW.PrintLast Go.Proofs.YtgifonogfgpjdaaW.PrintMore
attribute [local go_sem] max2_int min2_int max_two min_two max_three min_three max_four min_four max2_str min2_str str_geq str_gtr str_leq
set_option linter.unusedVariables false
set_option linter.unusedSimpArgs false
attribute [local go_sem high] eqA28
theorem F8.three (w : World) (o0 o1 o2 : Obj) : (((w.alloc o0).alloc o1).alloc o2).heap[w.heap.size]? = some o0∧(((w.alloc o0).alloc o1).alloc o2).heap[w.heap.size+1]? = some o1∧(((w.alloc o0).alloc o1).alloc o2).heap[w.heap.size+1+1]? = some o2∧Below w.heap.size w (((w.alloc o0).alloc o1).alloc o2):=by
 refine ⟨zg (zg (blk_new w _) _) _,zg ?_ _,?_,za (za (za (Below.refl _ _) _) _) _⟩
 ·
  have:=blk_new (w.alloc o0) o1
  simpa using this
 have:=blk_new ((w.alloc o0).alloc o1) o2
 simpa using this
theorem F8.at_F {w : World} {ok : Nat→Prop} {A : Option Addr} {n : Nat} {xs : List S60} (h : Kd.F k60 w ok A n xs) (i : Int) (h0 : 0≤i) (h1 : i<n) : ∃ ad A1 c1,A=some ad∧w.cell? ⟨(ad.add (i.toNat*2)).block,(ad.add (i.toNat*2)).off+1,none⟩=some (.slice A1 (rd_T60 xs i).f1.length c1)∧(rd_T60 xs i).f1.length≤c1∧Kd.F k28 w ok A1 (rd_T60 xs i).f1.length (rd_T60 xs i).f1:=by
 obtain ⟨ad,c,e,_,hK,hc0,_⟩:=Kd.F_get h z60 i h0 h1;have hc : ∀ j u,c[j]? = some u→w.cell? (ad.add (i.toNat*2+j))=some u:=hc0;obtain ⟨A1,c1,rfl,l1,g1⟩:=k60_openF hK;exact ⟨ad,A1,c1,e,jB3,l1,g1⟩
theorem F8.w_next (i : Nat) (h : i≤4611686018427387904) : wrap64 ((i : Int)+1)=((i+1 : Nat) : Int):=by unfold wrap64;omega
theorem F8.K_M {w w' : World} {base : Nat} {ok : Nat→Prop} (x : S28) (cs : List Value) (h : k28.K w' x cs) : k28.M w base ok x cs:=by rw [k28_open h];exact k28_mkM _ _ _ _
def F8.at : List S28→ByteArray→Int→Nat→Option Nat
 | [],_,_,i=>some i
 | x :: xs,key,id,i=>(F01.f x.f0 x.f1 key id).bind fun b=>(if b=true then F8.at xs key id (i+1) else some i)
def F8.row (l : List S28) (key : ByteArray) (id : Int) (i : Nat) : List S28:=l.take i ++ [(⟨key,id⟩ : S28)]++l.drop i
def F8.out (T : List S60) (n : Int) (j : Nat) (q : Int) (X : List S28) : List S60×Int×Int×Int:=if X.length≤4 then (T.set j (⟨q,X⟩ : S60),n,0,0) else (((T.set j (⟨q,X⟩ : S60)).set j (⟨q,X.take (X.length / 2)⟩ : S60)).take (j+1) ++ [(⟨n,X.drop (X.length / 2)⟩ : S60)]++((T.set j (⟨q,X⟩ : S60)).set j (⟨q,X.take (X.length / 2)⟩ : S60)).drop (j+1),n+1,n,0)
def F8.f (k : Nat) (l0_0 : List (S60)) (a0_1 : Int) (a1_0 : ByteArray) (a1_1 : Int) : Option ((List (S60))×Int×Int×Int):=(Fb.f k l0_0 a0_1 a1_0 a1_1).bind fun K=>(if 0≤K then (if K<(l0_0.length : Int) then (if l0_0.length≤4611686018427387904∧((rd_T60 l0_0 K).f1).length≤1000000 then ((F8.at ((rd_T60 l0_0 K).f1) a1_0 a1_1 0).bind fun i=>(if i<((rd_T60 l0_0 K).f1).length∧((rd_T28 ((rd_T60 l0_0 K).f1) (i : Int)).f0.toList == a1_0.toList && ((rd_T28 ((rd_T60 l0_0 K).f1) (i : Int)).f1 == a1_1))=true then some (l0_0,a0_1,0,12) else (if ((rd_T60 l0_0 K).f1).length=4∧(l0_0.length=60∨a0_1=100000) then some (l0_0,a0_1,0,7) else ((Fc.f k l0_0 a0_1).bind fun t=>(if K<(t.1.length : Int)∧t.1.length≤1000000∧wrap64 (t.2+1)=t.2+1 then some (F8.out t.1 t.2 K.toNat (rd_T60 t.1 K).f0 (F8.row ((rd_T60 l0_0 K).f1) a1_0 a1_1 i)) else none))))) else none) else none) else none)
theorem F8.mono : ∀ a0 a1 a2 a3 k,LeO (F8.f k a0 a1 a2 a3) (F8.f (k+1) a0 a1 a2 a3):=by
 intro a0 a1 a2 a3 k;unfold F8.f;exact zO (Fb.mono _ _ _ _ _) (fun K=>zP (zP (zP (zO (zQ _) (fun i=>zP (zQ _) (zP (zQ _) (zO (Fc.mono _ _ _) (fun _=>zQ _))))) (zN _)) (zN _)) (zN _))
theorem F8.at_le : ∀ (l : List S28) (key : ByteArray) (id : Int) (i r : Nat),F8.at l key id i=some r→i≤r∧r≤i+l.length
 | [],_,_,i,r,h=>by
  injection h with h;simp only [List.length_nil];omega
 | x :: xs,key,id,i,r,h=>by
  unfold F8.at at h;obtain ⟨b,_,h⟩:=zT.mp h
  by_cases c : b=true
  ·
   rw [if_pos c] at h
   have:=F8.at_le xs key id (i+1) r h;simp only [List.length_cons];omega
  rw [if_neg c] at h;injection h with h;simp only [List.length_cons];omega
set_option maxHeartbeats 16000000 in
set_option maxRecDepth 100000 in
theorem F8.calls (k : Nat) (P0_0_ : Nat→Prop) (A0_0 : Option Addr) (c0_0 : Nat) (l0_0 : List (S60)) (a0_1 : Int) (a1_0 : ByteArray) (a1_1 : Int) (r1 : List (S60)) (r2 : Int) (r3 : Int) (r4 : Int) (w : World) (hs0_0 : Kd.V k60 60 w w.heap.size (fun k_=>P0_0_ k_) (.slice A0_0 l0_0.length c0_0) l0_0) (h : F8.f k l0_0 a0_1 a1_0 a1_1=some (r1,r2,r3,r4)) :
  Calls Try.prog 36 #[.agg #[.slice A0_0 l0_0.length c0_0,.int .i64 a0_1],.agg #[.string a1_0,.int .i64 a1_1]] w fun e w' => ∃ v0_ : Value,e = .returned (.tuple #[.agg #[v0_,.int .i64 r2],.int .i64 r3,.int .i64 r4])∧Kd.V k60 60 w' w.heap.size (fun k_=>(P0_0_ k_∨w.heap.size≤k_)) v0_ r1∧Below w.heap.size w w':=by
 have hu25:=Try.underlying25;have hu28:=Try.underlying28;have mixed : Try.prog.follows Departure.mixedOrders=true:=by rfl
 have late : Try.prog.follows Departure.lateStores=true:=by rfl
 unfold F8.f at h;obtain ⟨pl,hK,h⟩:=zT.mp h
 by_cases hK0 : 0≤pl
 case neg=>rw [if_neg hK0] at h;cases h
 rw [if_pos hK0] at h
 by_cases hK1 : pl<(l0_0.length : Int)
 case neg=>rw [if_neg hK1] at h;cases h
 rw [if_pos hK1] at h;obtain ⟨l,hl⟩ : ∃ l,l=(rd_T60 l0_0 pl).f1:=⟨_,rfl⟩;rw [← hl] at h
 by_cases hlm : l0_0.length≤4611686018427387904∧l.length≤1000000
 case neg=>rw [if_neg hlm] at h;cases h
 rw [if_pos hlm] at h;obtain ⟨-,hc0_0,hF0⟩:=Kd.V_at hs0_0;obtain ⟨ad,Al,cl,rfl,hxl,hlc,hFl⟩:=F8.at_F hF0 pl hK0 hK1;rw [← hl] at hxl hlc hFl;have HF0:=zh hF0;have HFl:=zh hFl;have HXL:=zh hxl;have HLC:=zh hlc;have HLM:=zh hlm;have HL:=zh hl;obtain ⟨V,hV⟩ : ∃ V,V=((w.alloc (.cells #[.slice (some ad) l0_0.length c0_0,.int .i64 a0_1] 25)).alloc (.cells #[.string a1_0,.int .i64 a1_1] 28)).alloc (.cells #[.slice none 0 0,.int .i64 0] 25):=⟨_,rfl⟩;obtain ⟨h0,h1,h2,hBV⟩:=F8.three w (.cells #[.slice (some ad) l0_0.length c0_0,.int .i64 a0_1] 25) (.cells #[.string a1_0,.int .i64 a1_1] 28) (.cells #[.slice none 0 0,.int .i64 0] 25);rw [← hV] at h0 h1 h2 hBV;obtain ⟨g0,hg0⟩ : ∃ g,g=w.heap.size:=⟨_,rfl⟩;rw [← hg0] at h0 h1 h2;obtain ⟨g1,hg1⟩ : ∃ g,g=g0+1:=⟨_,rfl⟩;rw [← hg1] at h1 h2;obtain ⟨g2,hg2⟩ : ∃ g,g=g1+1:=⟨_,rfl⟩;rw [← hg2] at h2;have hb0 : w.heap.size≤g0:=Nat.le_of_eq hg0.symm;have hb1 : w.heap.size≤g1:=by rw [hg1,hg0];exact Nat.le_add_right _ _
 have hb2 : w.heap.size≤g2:=by rw [hg2,hg1,hg0,Nat.add_assoc];exact Nat.le_add_right _ _
 have n02 : g0≠g2:=by omega
 have n10 : g1≠g0:=by omega
 have HB0:=zh hBV;have H0_0:=zh h0;have H1_0:=zh h1;have H2_0:=zh h2;have GB0:=zh hb0;have GB1:=zh hb1;have GB2:=zh hb2;have N02:=zh n02;have N10:=zh n10;have k0:=(zz h0 0).trans (show _=some (.slice (some ad) l0_0.length c0_0) from rfl);have k1:=(zz h0 1).trans (show _=some (.int .i64 a0_1) from rfl);have k2:=(zz h1 0).trans (show _=some (.string a1_0) from rfl);have k3:=(zz h1 1).trans (show _=some (.int .i64 a1_1) from rfl);clear h0 h1 h2 hBV hF0 hFl hxl hlc hlm hb0 hb1 hb2 n02 n10 hs0_0
 go_enter Try.func36,Try.ntmps36
 go_wp2_with fail
 rw [← hV];simp only [← hg0];simp only [← hg1];simp only [← hg2];clear hV hg0 hg1 hg2
 go_at_call 39
 refine (Fb.calls k (some ad) c0_0 l0_0 a0_1 a1_0 a1_1 pl V (Kd.F_now (Kd.F_below HF0.out HB0.out)) hc0_0 hK).mono ?_;rintro e w1 ⟨rfl,hb_⟩;have HB1:=zh (zC HB0.out hb_);have H0_1:=zh (zD H0_0.out hb_);have H1_1:=zh (zD H1_0.out hb_);have H2_1:=zh (zD H2_0.out hb_);clear k0 k1 k2 k3 hb_ hK HB0 H0_0 H1_0 H2_0;have k0:=(zz H0_1.out 0).trans (show _=some (.slice (some ad) l0_0.length c0_0) from rfl);have kx:=(HB1.out.cell (zl w _ HXL.out)).trans HXL.out;have hp0:=eq_true hK0;have hp1:=eq_true hK1;clear hl
 go_upto_block 0 with (fail)
 obtain ⟨im,hI,h⟩:=zT.mp h;have HH:=zh h;have HR0:=zh hI;have HIL : Aside0 (im≤l.length):=⟨by have:=F8.at_le _ _ _ _ _ hI;omega⟩;clear k0 kx h hI
 go_cut [9] (fun v9 wc=>v9 = .int .i64 (im : Int)∧Aside0 (wc.heap[g0]? = some (.cells #[.slice (some ad) l0_0.length c0_0,.int .i64 a0_1] 25 (0,0)))∧Aside0 (wc.heap[g1]? = some (.cells #[.string a1_0,.int .i64 a1_1] 28 (0,0)))∧Aside0 (wc.heap[g2]? = some (.cells #[.slice none 0 0,.int .i64 0] 25 (0,0)))∧Aside0 (Below w.heap.size w wc))
 case first =>
  go_wp2_with fail
  go_loopg [9] l.length (fun kq v9 wc => ∃ (i : Nat),v9 = .int .i64 (i : Int)∧Aside0 (kq+i=l.length)∧Aside0 (F8.at (l.drop i) a1_0 a1_1 i=some im)∧Aside0 (wc.heap[g0]? = some (.cells #[.slice (some ad) l0_0.length c0_0,.int .i64 a0_1] 25 (0,0)))∧Aside0 (wc.heap[g1]? = some (.cells #[.string a1_0,.int .i64 a1_1] 28 (0,0)))∧Aside0 (wc.heap[g2]? = some (.cells #[.slice none 0 0,.int .i64 0] 25 (0,0)))∧Aside0 (Below w.heap.size w wc))
  case atStart=>exact ⟨0,rfl,⟨jE⟩,⟨by rw [List.drop_zero];exact HR0.out⟩,H0_1,H1_1,H2_1,HB1⟩
  case round =>
   clear H0_1 H1_1 H2_1 HB1 HR0 HH;obtain ⟨i,rfl,HI,HA,H0_2,H1_2,H2_2,HB2⟩:=hrel
   by_cases hil : i<l.length
   ·
    have c3 : decide ((i : Int)<(l.length : Int))=true:=decide_eq_true (Int.ofNat_lt.2 hil)
    have hi0 : (0≤(i : Int))=True:=eq_true (Int.natCast_nonneg i);have hi1 : ((i : Int)<(l.length : Int))=True:=eq_true (Int.ofNat_lt.2 hil);have hwi:=F8.w_next i (Nat.le_trans (Nat.le_of_lt hil) (Nat.le_trans HLM.out.2 jB));obtain ⟨kq,rfl⟩ : ∃ q,gk=q+1:=⟨gk - 1,by have:=HI.out;omega⟩;obtain ⟨ae,hAe,hx0_,hx1_⟩:=at_T28 (Kd.F_now HFl.out) (i : Int) (Int.natCast_nonneg _) (Int.ofNat_lt.2 hil)
    cases hAe
    rw [Int.toNat_natCast] at hx0_ hx1_;have hx0:=(HB2.out.cell (zl w _ hx0_)).trans hx0_;have hx1:=(HB2.out.cell (zl w _ hx1_)).trans hx1_;have hA:=HA.out;rw [List.drop_eq_getElem_cons hil] at hA;simp only [F8.at] at hA
    have er : l[i]=rd_T28 l (i : Int):=by
     unfold rd_T28;rw [List.getD_eq_getElem?_getD,Int.toNat_natCast,List.getElem?_eq_getElem hil];rfl
    rw [er] at hA;obtain ⟨bl,hbl,hA⟩:=zT.mp hA;have HA2:=zh hA;clear hA er HA hx0_ hx1_;have k2:=(zz H1_2.out 0).trans (show _=some (.string a1_0) from rfl);have k3:=(zz H1_2.out 1).trans (show _=some (.int .i64 a1_1) from rfl)
    go_wp2_with fail
    have HB3:=zh (zc HB2.out);have H0_3:=zh (zf H0_2.out);have H1_3:=zh (zf H1_2.out);have H2_3:=zh (zf H2_2.out);refine start_ (n:=12) (S:=fun w' => w'.cell? (ae.add (i*2))=some (.string (rd_T28 l (i : Int)).f0)∧w'.cell? ⟨(ae.add (i*2)).block,(ae.add (i*2)).off+1,none⟩=some (.int .i64 (rd_T28 l (i : Int)).f1)∧w'.cell? ⟨g1,0,none⟩=some (.string a1_0)∧w'.cell? ⟨g1,1,none⟩=some (.int .i64 a1_1)) (ds:=[10]) (bm_ 0 12) jA rfl rfl ⟨hx0,hx1,k2,k3⟩ (fun hHeld=>?_);generalize wr.drew=w3 at HB3 H0_3 H1_3 H2_3 hHeld ⊢;clear hx0 hx1 k2 k3 HB2 H0_2 H1_2 H2_2;refine pure_ (i:=0) (N:=some 21) (v:=?_) (a':=?_) (bm_ 1 12) rfl rfl jA (fun _ _ _ h=>h) (Or.inl ⟨by rfl,?_⟩) ?_ ?_;rotate_left;exact jb;rotate_left;exact jc
    refine pure_ (i:=1) (N:=some 22) (v:=?_) (a':=?_) (bm_ 2 12) rfl rfl jA (fun _ _ _ h=>h) (Or.inl ⟨by rfl,?_⟩) ?_ ?_;rotate_left;exact jb;rotate_left;exact jc
    refine pure_ (i:=2) (N:=some 23) (v:=?_) (a':=?_) (bm_ 3 12) rfl rfl jA (fun _ _ _ h=>h) (Or.inl ⟨by rfl,?_⟩) ?_ ?_;rotate_left;exact jb;rotate_left;exact jc
    refine pure_ (i:=3) (N:=some 24) (v:=?_) (a':=?_) (bm_ 4 12) rfl rfl jA (fun _ _ _ h=>h) (Or.inl ⟨by rfl,?_⟩) ?_ ?_;rotate_left;exact jb;rotate_left;exact jc
    refine pure_ (i:=4) (N:=some 25) (v:=?_) (a':=?_) (bm_ 5 12) rfl rfl jA (fun _ _ _ h=>h) (Or.inl ⟨by rfl,?_⟩) ?_ ?_;rotate_left;exact jb;rotate_left;exact jc
    refine pure_ (i:=5) (N:=some 26) (v:=?_) (a':=?_) (bm_ 6 12) rfl rfl jA (fun _ _ _ h=>h) (Or.inl ⟨by rfl,?_⟩) ?_ ?_;rotate_left;exact jb;rotate_left;exact jc
    refine pure_ (i:=6) (N:=some 27) (v:=?_) (a':=?_) (bm_ 7 12) rfl rfl jA (fun _ _ _ h=>h) (Or.inl ⟨by rfl,?_⟩) ?_ ?_;rotate_left;exact jb;rotate_left;exact jc
    refine pure_ (i:=7) (N:=some 28) (v:=?_) (a':=?_) (bm_ 8 12) rfl rfl jA (fun _ _ _ h=>h) (Or.inl ⟨by rfl,?_⟩) ?_ ?_;rotate_left;exact jb;rotate_left;exact jc
    refine take_ (i:=8) (N:=some 29) (v:=?_) (a':=?_) (bm_ 9 12) rfl rfl jA (fun _ _ _ h=>h) (Or.inl ⟨by rfl,?_⟩) hHeld ?_ ?_;rotate_left
    ·
     rintro w' ⟨s0,s1,s2,s3⟩
     go_simp
     with_reducible rfl
    rotate_left
    exact jc
    refine take_ (i:=9) (N:=some 30) (v:=?_) (a':=?_) (bm_ 10 12) rfl rfl jA (fun _ _ _ h=>h) (Or.inl ⟨by rfl,?_⟩) hHeld ?_ ?_;rotate_left
    ·
     rintro w' ⟨s0,s1,s2,s3⟩
     go_simp
     with_reducible rfl
    rotate_left
    exact jc
    refine last_ (i:=10) (N:=some 31) (bm_ 11 12) rfl rfl jA jB (fun K hK=>?_);refine goes_ Try.func50 jA rfl #[.agg #[.string (rd_T28 l (i : Int)).f0,.int .i64 (rd_T28 l (i : Int)).f1],.agg #[.string a1_0,.int .i64 a1_1]] (by rfl) rfl rfl (by simp only [zt,zu,zv];rfl) ?_
    with_reducible refine (F01.calls (rd_T28 l (i : Int)).f0 (rd_T28 l (i : Int)).f1 a1_0 a1_1 bl _ hbl).mono ?_
    rintro e w4 ⟨rfl,hb_⟩;refine ⟨_,rfl,?_⟩;refine hK.out _ _ ?_;clear hK K;refine norm_ (a':=?_) ?_ ?_;rotate_left
    ·
     show Act.put _ (some 31) _=_
     simp only [Act.put,zi,zj,zk,zG,zH]
     rfl
    refine pure_ (i:=11) (N:=some 32) (v:=?_) (a':=?_) (bm_ 12 12) rfl rfl jA (fun _ _ _ h=>h) (Or.inl ⟨by rfl,?_⟩) ?_ ?_;rotate_left;exact jb;rotate_left;exact jc
    refine done_ jA ?_;have HB4:=zh (zC HB3.out hb_);have H0_4:=zh (zD H0_3.out hb_);have H1_4:=zh (zD H1_3.out hb_);have H2_4:=zh (zD H2_3.out hb_);have hA3:=HA2.out;clear hbl hb_ HA2 HB3 H0_3 H1_3 H2_3
    cases bl with
    | true =>
     replace hA3 : F8.at (l.drop (i+1)) a1_0 a1_1 (i+1)=some im:=hA3;have HA3:=zh hA3;clear hA3
     go_wp2_with fail
     go_roundg kq
     case measure=>exact Nat.lt_succ_self _
     case rel=>exact ⟨i+1,by first|rfl|rw [hwi],⟨by have:=HI.out;omega⟩,HA3,H0_4,H1_4,H2_4,HB4⟩
    | false =>
     replace hA3 : some i=some im:=hA3;obtain rfl:=zU hA3;clear hA3
     go_wp2_with fail
     go_meet
     case rel=>exact ⟨rfl,H0_4,H1_4,H2_4,HB4⟩
   have c3 : decide ((i : Int)<(l.length : Int))=false:=decide_eq_false (fun h9=>hil (Int.ofNat_lt.1 h9));have hA:=HA.out;rw [List.drop_of_length_le (Nat.le_of_not_lt hil)] at hA;replace hA : some i=some im:=hA;obtain rfl:=zU hA;clear hA
   go_wp2_with fail
   have HB3:=zh (zc HB2.out);have H0_3:=zh (zf H0_2.out);have H1_3:=zh (zf H1_2.out);have H2_3:=zh (zf H2_2.out);refine start_ (n:=12) (S:=fun w' => True) (ds:=[]) (bm_ 0 12) jA rfl rfl trivial (fun hHeld=>?_);generalize wr.drew=w3 at HB3 H0_3 H1_3 H2_3 hHeld ⊢;clear HB2 H0_2 H1_2 H2_2;refine pure_ (i:=0) (N:=some 21) (v:=?_) (a':=?_) (bm_ 1 12) rfl rfl jA (fun _ _ _ h=>h) (Or.inl ⟨by rfl,?_⟩) ?_ ?_;rotate_left;exact jb;rotate_left;exact jc
   refine pure_ (i:=1) (N:=some 22) (v:=?_) (a':=?_) (bm_ 2 12) rfl rfl jA (fun _ _ _ h=>h) (Or.inl ⟨by rfl,?_⟩) ?_ ?_;rotate_left;exact jb;rotate_left;exact jc
   refine pure_ (i:=2) (N:=some 23) (v:=?_) (a':=?_) (bm_ 3 12) rfl rfl jA (fun _ _ _ h=>h) (Or.inl ⟨by rfl,?_⟩) ?_ ?_;rotate_left;exact jb;rotate_left;exact jc
   refine pure_ (i:=3) (N:=some 24) (v:=?_) (a':=?_) (bm_ 4 12) rfl rfl jA (fun _ _ _ h=>h) (Or.inl ⟨by rfl,?_⟩) ?_ ?_;rotate_left;exact jb;rotate_left;exact jc
   refine pure_ (i:=4) (N:=some 25) (v:=?_) (a':=?_) (bm_ 5 12) rfl rfl jA (fun _ _ _ h=>h) (Or.inl ⟨by rfl,?_⟩) ?_ ?_;rotate_left;exact jb;rotate_left;exact jc
   refine pure_ (i:=5) (N:=some 26) (v:=undef) (a':=?_) (bm_ 6 12) rfl rfl jA (fun _ _ _ h=>h) (Or.inr ⟨by rfl,rfl⟩) ?_ ?_;rotate_left
   exact jc
   refine pure_ (i:=6) (N:=some 27) (v:=undef) (a':=?_) (bm_ 7 12) rfl rfl jA (fun _ _ _ h=>h) (Or.inr ⟨by rfl,rfl⟩) ?_ ?_;rotate_left
   exact jc
   refine pure_ (i:=7) (N:=some 28) (v:=undef) (a':=?_) (bm_ 8 12) rfl rfl jA (fun _ _ _ h=>h) (Or.inr ⟨by rfl,rfl⟩) ?_ ?_;rotate_left
   exact jc
   refine pure_ (i:=8) (N:=some 29) (v:=undef) (a':=?_) (bm_ 9 12) rfl rfl jA (fun _ _ _ h=>h) (Or.inr ⟨by rfl,rfl⟩) ?_ ?_;rotate_left
   exact jc
   refine pure_ (i:=9) (N:=some 30) (v:=undef) (a':=?_) (bm_ 10 12) rfl rfl jA (fun _ _ _ h=>h) (Or.inr ⟨by rfl,rfl⟩) ?_ ?_;rotate_left
   exact jc
   refine pure_ (i:=10) (N:=some 31) (v:=undef) (a':=?_) (bm_ 11 12) rfl rfl jA (fun _ _ _ h=>h) (Or.inr ⟨by rfl,rfl⟩) ?_ ?_;rotate_left
   exact jc
   refine pure_ (i:=11) (N:=some 32) (v:=?_) (a':=?_) (bm_ 12 12) rfl rfl jA (fun _ _ _ h=>h) (Or.inl ⟨by rfl,?_⟩) ?_ ?_;rotate_left;exact jb;rotate_left;exact jc
   refine done_ jA ?_
   go_wp2_with fail
   go_meet
   case rel=>exact ⟨rfl,H0_3,H1_3,H2_3,HB3⟩
 case rest =>
  clear H0_1 H1_1 H2_1 HB1 HR0;obtain ⟨rfl,H0_1,H1_1,H2_1,HB1⟩:=hcut
  go_upto_region 6 with (fail)
  go_cut [46] (fun v46 wc => ∃ b : Bool,v46 = .bool b∧Aside0 ((if b=true then some (l0_0,a0_1,0,12) else (if l.length=4∧(l0_0.length=60∨a0_1=100000) then some (l0_0,a0_1,0,7) else ((Fc.f k l0_0 a0_1).bind fun t=>(if pl<(t.1.length : Int)∧t.1.length≤1000000∧wrap64 (t.2+1)=t.2+1 then some (F8.out t.1 t.2 pl.toNat (rd_T60 t.1 pl).f0 (F8.row l a1_0 a1_1 im)) else none))))=some (r1,r2,r3,r4))∧Aside0 (wc.heap[g0]? = some (.cells #[.slice (some ad) l0_0.length c0_0,.int .i64 a0_1] 25 (0,0)))∧Aside0 (wc.heap[g1]? = some (.cells #[.string a1_0,.int .i64 a1_1] 28 (0,0)))∧Aside0 (wc.heap[g2]? = some (.cells #[.slice none 0 0,.int .i64 0] 25 (0,0)))∧Aside0 (Below w.heap.size w wc))
  case first =>
   have h:=HH.out;clear HH
   by_cases hil : im<l.length
   ·
    have c3 : decide ((im : Int)<(l.length : Int))=true:=decide_eq_true (Int.ofNat_lt.2 hil)
    have hi0 : (0≤(im : Int))=True:=eq_true (Int.natCast_nonneg im);have hi1 : ((im : Int)<(l.length : Int))=True:=eq_true (Int.ofNat_lt.2 hil);obtain ⟨ae,hAe,hx0_,hx1_⟩:=at_T28 (Kd.F_now HFl.out) (im : Int) (Int.natCast_nonneg _) (Int.ofNat_lt.2 hil)
    cases hAe
    rw [Int.toNat_natCast] at hx0_ hx1_;clear hi0;have hi0 : (0≤(im : Int))=True:=eq_true (Int.natCast_nonneg im);have hx0:=(HB1.out.cell (zl w _ hx0_)).trans hx0_;have hx1:=(HB1.out.cell (zl w _ hx1_)).trans hx1_;have k2:=(zz H1_1.out 0).trans (show _=some (.string a1_0) from rfl);have k3:=(zz H1_1.out 1).trans (show _=some (.int .i64 a1_1) from rfl);clear hx0_ hx1_
    go_wp2_with fail
    have HB3:=zh (zc HB1.out);have H0_3:=zh (zf H0_1.out);have H1_3:=zh (zf H1_1.out);have H2_3:=zh (zf H2_1.out);refine start_ (n:=12) (S:=fun w' => w'.cell? (ae.add (im*2))=some (.string (rd_T28 l (im : Int)).f0)∧w'.cell? ⟨(ae.add (im*2)).block,(ae.add (im*2)).off+1,none⟩=some (.int .i64 (rd_T28 l (im : Int)).f1)∧w'.cell? ⟨g1,0,none⟩=some (.string a1_0)∧w'.cell? ⟨g1,1,none⟩=some (.int .i64 a1_1)) (ds:=[]) (bm_ 0 12) jA rfl rfl ⟨hx0,hx1,k2,k3⟩ (fun hHeld=>?_);generalize wc.drew=w3 at HB3 H0_3 H1_3 H2_3 hHeld ⊢;clear hx0 hx1 k2 k3 HB1 H0_1 H1_1 H2_1;refine pure_ (i:=0) (N:=some 35) (v:=?_) (a':=?_) (bm_ 1 12) rfl rfl jA (fun _ _ _ h=>h) (Or.inl ⟨by rfl,?_⟩) ?_ ?_;rotate_left;exact jb;rotate_left;exact jc
    refine pure_ (i:=1) (N:=some 36) (v:=?_) (a':=?_) (bm_ 2 12) rfl rfl jA (fun _ _ _ h=>h) (Or.inl ⟨by rfl,?_⟩) ?_ ?_;rotate_left;exact jb;rotate_left;exact jc
    refine pure_ (i:=2) (N:=some 37) (v:=?_) (a':=?_) (bm_ 3 12) rfl rfl jA (fun _ _ _ h=>h) (Or.inl ⟨by rfl,?_⟩) ?_ ?_;rotate_left;exact jb;rotate_left;exact jc
    refine pure_ (i:=3) (N:=some 38) (v:=?_) (a':=?_) (bm_ 4 12) rfl rfl jA (fun _ _ _ h=>h) (Or.inl ⟨by rfl,?_⟩) ?_ ?_;rotate_left;exact jb;rotate_left;exact jc
    refine pure_ (i:=4) (N:=some 39) (v:=?_) (a':=?_) (bm_ 5 12) rfl rfl jA (fun _ _ _ h=>h) (Or.inl ⟨by rfl,?_⟩) ?_ ?_;rotate_left;exact jb;rotate_left;exact jc
    refine pure_ (i:=5) (N:=some 40) (v:=?_) (a':=?_) (bm_ 6 12) rfl rfl jA (fun _ _ _ h=>h) (Or.inl ⟨by rfl,?_⟩) ?_ ?_;rotate_left;exact jb;rotate_left;exact jc
    refine pure_ (i:=6) (N:=some 41) (v:=?_) (a':=?_) (bm_ 7 12) rfl rfl jA (fun _ _ _ h=>h) (Or.inl ⟨by rfl,?_⟩) ?_ ?_;rotate_left;exact jb;rotate_left;exact jc
    refine pure_ (i:=7) (N:=some 42) (v:=?_) (a':=?_) (bm_ 8 12) rfl rfl jA (fun _ _ _ h=>h) (Or.inl ⟨by rfl,?_⟩) ?_ ?_;rotate_left;exact jb;rotate_left;exact jc
    refine take_ (i:=8) (N:=some 43) (v:=?_) (a':=?_) (bm_ 9 12) rfl rfl jA (fun _ _ _ h=>h) (Or.inl ⟨by rfl,?_⟩) hHeld ?_ ?_;rotate_left
    ·
     rintro w' ⟨s0,s1,s2,s3⟩
     go_simp
     with_reducible rfl
    rotate_left
    exact jc
    refine take_ (i:=9) (N:=some 44) (v:=?_) (a':=?_) (bm_ 10 12) rfl rfl jA (fun _ _ _ h=>h) (Or.inl ⟨by rfl,?_⟩) hHeld ?_ ?_;rotate_left
    ·
     rintro w' ⟨s0,s1,s2,s3⟩
     go_simp
     with_reducible rfl
    rotate_left
    exact jc
    refine pure_ (i:=10) (N:=some 45) (v:=?_) (a':=?_) (bm_ 11 12) rfl rfl jA (fun _ _ _ h=>h) (Or.inl ⟨by rfl,?_⟩) ?_ ?_;rotate_left;exact jb;rotate_left;exact jc
    refine pure_ (i:=11) (N:=some 46) (v:=?_) (a':=?_) (bm_ 12 12) rfl rfl jA (fun _ _ _ h=>h) (Or.inl ⟨by rfl,?_⟩) ?_ ?_;rotate_left;exact jb;rotate_left;exact jc
    refine done_ jA ?_;obtain ⟨bA,hbA⟩ : ∃ b,b=((rd_T28 l (im : Int)).f0.toList == a1_0.toList && ((rd_T28 l (im : Int)).f1 == a1_1)):=⟨_,rfl⟩;rw [← hbA] at h ⊢;clear hbA
    have H' : Aside0 ((if bA=true then some (l0_0,a0_1,0,12) else (if l.length=4∧(l0_0.length=60∨a0_1=100000) then some (l0_0,a0_1,0,7) else ((Fc.f k l0_0 a0_1).bind fun t=>(if pl<(t.1.length : Int)∧t.1.length≤1000000∧wrap64 (t.2+1)=t.2+1 then some (F8.out t.1 t.2 pl.toNat (rd_T60 t.1 pl).f0 (F8.row l a1_0 a1_1 im)) else none))))=some (r1,r2,r3,r4)):=⟨by
     cases bA with
     | true=>rw [if_pos ⟨hil,rfl⟩] at h;rw [if_pos rfl];exact h
     | false=>rw [if_neg (fun h9=>by cases h9.2)] at h;rw [if_neg jB];exact h⟩
    clear h
    go_wp2_with fail
    go_meet
    case rel=>exact ⟨bA,rfl,H',H0_3,H1_3,H2_3,HB3⟩
   have c3 : decide ((im : Int)<(l.length : Int))=false:=decide_eq_false (fun h9=>hil (Int.ofNat_lt.1 h9));rw [if_neg (fun h9=>hil h9.1)] at h;have H' : Aside0 ((if false=true then some (l0_0,a0_1,0,12) else (if l.length=4∧(l0_0.length=60∨a0_1=100000) then some (l0_0,a0_1,0,7) else ((Fc.f k l0_0 a0_1).bind fun t=>(if pl<(t.1.length : Int)∧t.1.length≤1000000∧wrap64 (t.2+1)=t.2+1 then some (F8.out t.1 t.2 pl.toNat (rd_T60 t.1 pl).f0 (F8.row l a1_0 a1_1 im)) else none))))=some (r1,r2,r3,r4)):=⟨jBb⟩;clear h
   go_wp2_with fail
   have HB3:=zh (zc HB1.out);have H0_3:=zh (zf H0_1.out);have H1_3:=zh (zf H1_1.out);have H2_3:=zh (zf H2_1.out);refine start_ (n:=12) (S:=fun w' => True) (ds:=[]) (bm_ 0 12) jA rfl rfl trivial (fun hHeld=>?_);generalize wc.drew=w3 at HB3 H0_3 H1_3 H2_3 hHeld ⊢;clear HB1 H0_1 H1_1 H2_1;refine pure_ (i:=0) (N:=some 35) (v:=?_) (a':=?_) (bm_ 1 12) rfl rfl jA (fun _ _ _ h=>h) (Or.inl ⟨by rfl,?_⟩) ?_ ?_;rotate_left;exact jb;rotate_left;exact jc
   refine pure_ (i:=1) (N:=some 36) (v:=?_) (a':=?_) (bm_ 2 12) rfl rfl jA (fun _ _ _ h=>h) (Or.inl ⟨by rfl,?_⟩) ?_ ?_;rotate_left;exact jb;rotate_left;exact jc
   refine pure_ (i:=2) (N:=some 37) (v:=?_) (a':=?_) (bm_ 3 12) rfl rfl jA (fun _ _ _ h=>h) (Or.inl ⟨by rfl,?_⟩) ?_ ?_;rotate_left;exact jb;rotate_left;exact jc
   refine pure_ (i:=3) (N:=some 38) (v:=?_) (a':=?_) (bm_ 4 12) rfl rfl jA (fun _ _ _ h=>h) (Or.inl ⟨by rfl,?_⟩) ?_ ?_;rotate_left;exact jb;rotate_left;exact jc
   refine pure_ (i:=4) (N:=some 39) (v:=?_) (a':=?_) (bm_ 5 12) rfl rfl jA (fun _ _ _ h=>h) (Or.inl ⟨by rfl,?_⟩) ?_ ?_;rotate_left;exact jb;rotate_left;exact jc
   refine pure_ (i:=5) (N:=some 40) (v:=undef) (a':=?_) (bm_ 6 12) rfl rfl jA (fun _ _ _ h=>h) (Or.inr ⟨by rfl,rfl⟩) ?_ ?_;rotate_left
   exact jc
   refine pure_ (i:=6) (N:=some 41) (v:=undef) (a':=?_) (bm_ 7 12) rfl rfl jA (fun _ _ _ h=>h) (Or.inr ⟨by rfl,rfl⟩) ?_ ?_;rotate_left
   exact jc
   refine pure_ (i:=7) (N:=some 42) (v:=undef) (a':=?_) (bm_ 8 12) rfl rfl jA (fun _ _ _ h=>h) (Or.inr ⟨by rfl,rfl⟩) ?_ ?_;rotate_left
   exact jc
   refine pure_ (i:=8) (N:=some 43) (v:=undef) (a':=?_) (bm_ 9 12) rfl rfl jA (fun _ _ _ h=>h) (Or.inr ⟨by rfl,rfl⟩) ?_ ?_;rotate_left
   exact jc
   refine pure_ (i:=9) (N:=some 44) (v:=undef) (a':=?_) (bm_ 10 12) rfl rfl jA (fun _ _ _ h=>h) (Or.inr ⟨by rfl,rfl⟩) ?_ ?_;rotate_left
   exact jc
   refine pure_ (i:=10) (N:=some 45) (v:=undef) (a':=?_) (bm_ 11 12) rfl rfl jA (fun _ _ _ h=>h) (Or.inr ⟨by rfl,rfl⟩) ?_ ?_;rotate_left
   exact jc
   refine pure_ (i:=11) (N:=some 46) (v:=?_) (a':=?_) (bm_ 12 12) rfl rfl jA (fun _ _ _ h=>h) (Or.inl ⟨by rfl,?_⟩) ?_ ?_;rotate_left;exact jb;rotate_left;exact jc
   refine done_ jA ?_
   go_wp2_with fail
   go_meet
   case rel=>exact ⟨false,rfl,H',H0_3,H1_3,H2_3,HB3⟩
  case rest =>
   clear HH H0_1 H1_1 H2_1 HB1;obtain ⟨b6,rfl,HH,H0_1,H1_1,H2_1,HB1⟩:=hcut
   cases b6
   case true =>
    have h:=HH.out;rw [if_pos rfl] at h;simp only [Option.some.injEq,Prod.mk.injEq] at h;clear HH;obtain ⟨rfl,rfl,rfl,rfl⟩:=h;have k0:=zz H0_1.out 0;have k1:=zz H0_1.out 1;have k2:=zz H2_1.out 0;have k3:=zz H2_1.out 1;have f0:=zA H2_1.out 0;have f1:=zA H2_1.out 1
    go_wp2_with fail
    refine bodyPost_ret (results_ctt rfl _ _ g2 25 #[.slice (some ad) l0_0.length c0_0,.int .i64 a0_1] (0,0) _ rfl (blk_set (blk_set H2_1.out 0 (.slice (some ad) l0_0.length c0_0)) 1 (.int .i64 a0_1)) hu25 rfl jA) rfl ?_;exact ⟨_,rfl,Kd.V_mk hc0_0 (Kd.F_mono (Kd.F_far (p:=⟨g2,1,none⟩) (Kd.F_far (p:=⟨g2,0,none⟩) (Kd.F_below (Kd.F_bound HF0.out) HB1.out) (fun _ hk e9=>by rw [e9] at hk;exact Nat.lt_irrefl _ (Nat.lt_of_lt_of_le hk.2 GB2.out)) _) (fun _ hk e9=>by rw [e9] at hk;exact Nat.lt_irrefl _ (Nat.lt_of_lt_of_le hk.2 GB2.out)) _) (fun _ hk => .inl hk.1)),zd (zd HB1.out GB2.out) GB2.out⟩
   have h:=HH.out;rw [if_neg jB] at h;replace HH:=zh h;clear h
   go_upto_region 8 with (fail)
   go_cut [61] (fun v61 wc => ∃ b : Bool,v61 = .bool b∧Aside0 ((if b=true then some (l0_0,a0_1,0,7) else ((Fc.f k l0_0 a0_1).bind fun t=>(if pl<(t.1.length : Int)∧t.1.length≤1000000∧wrap64 (t.2+1)=t.2+1 then some (F8.out t.1 t.2 pl.toNat (rd_T60 t.1 pl).f0 (F8.row l a1_0 a1_1 im)) else none)))=some (r1,r2,r3,r4))∧Aside0 (wc.heap[g0]? = some (.cells #[.slice (some ad) l0_0.length c0_0,.int .i64 a0_1] 25 (0,0)))∧Aside0 (wc.heap[g1]? = some (.cells #[.string a1_0,.int .i64 a1_1] 28 (0,0)))∧Aside0 (wc.heap[g2]? = some (.cells #[.slice none 0 0,.int .i64 0] 25 (0,0)))∧Aside0 (Below w.heap.size w wc))
   case first =>
    have h:=HH.out;clear HH;have k0:=(zz H0_1.out 0).trans (show _=some (.slice (some ad) l0_0.length c0_0) from rfl);have k1:=(zz H0_1.out 1).trans (show _=some (.int .i64 a0_1) from rfl)
    by_cases d1 : l.length=4
    case neg =>
     rw [if_neg (fun h9=>d1 h9.1)] at h;have e1 : ((l.length : Int) == 4)=false:=zY.mpr jE;have e1n : (l.length == 4)=false:=zY.mpr d1;have H' : Aside0 ((if false=true then some (l0_0,a0_1,0,7) else ((Fc.f k l0_0 a0_1).bind fun t=>(if pl<(t.1.length : Int)∧t.1.length≤1000000∧wrap64 (t.2+1)=t.2+1 then some (F8.out t.1 t.2 pl.toNat (rd_T60 t.1 pl).f0 (F8.row l a1_0 a1_1 im)) else none)))=some (r1,r2,r3,r4)):=⟨jBb⟩;clear h d1
     go_wp2_with fail
     go_meet
     case rel=>exact ⟨false,rfl,H',H0_1,H1_1,H2_1,HB1⟩
    have e1 : ((l.length : Int) == 4)=true:=ya.mpr jE;have e1n : (l.length == 4)=true:=ya.mpr d1
    by_cases d2 : l0_0.length=60
    case pos =>
     rw [if_pos ⟨d1,.inl d2⟩] at h;have e2 : ((l0_0.length : Int) == 60)=true:=ya.mpr jE;have e2n : (l0_0.length == 60)=true:=ya.mpr d2;have H' : Aside0 ((if true=true then some (l0_0,a0_1,0,7) else ((Fc.f k l0_0 a0_1).bind fun t=>(if pl<(t.1.length : Int)∧t.1.length≤1000000∧wrap64 (t.2+1)=t.2+1 then some (F8.out t.1 t.2 pl.toNat (rd_T60 t.1 pl).f0 (F8.row l a1_0 a1_1 im)) else none)))=some (r1,r2,r3,r4)):=⟨by rw [if_pos rfl];exact h⟩;clear h d1 d2
     go_wp2_with fail
     go_meet
     case rel=>exact ⟨true,rfl,H',H0_1,H1_1,H2_1,HB1⟩
    have e2 : ((l0_0.length : Int) == 60)=false:=zY.mpr jE;have e2n : (l0_0.length == 60)=false:=zY.mpr d2
    by_cases d3 : a0_1=100000
    case pos =>
     rw [if_pos ⟨d1,.inr d3⟩] at h;have e3 : (a0_1 == 100000)=true:=ya.mpr d3;have H' : Aside0 ((if true=true then some (l0_0,a0_1,0,7) else ((Fc.f k l0_0 a0_1).bind fun t=>(if pl<(t.1.length : Int)∧t.1.length≤1000000∧wrap64 (t.2+1)=t.2+1 then some (F8.out t.1 t.2 pl.toNat (rd_T60 t.1 pl).f0 (F8.row l a1_0 a1_1 im)) else none)))=some (r1,r2,r3,r4)):=⟨by rw [if_pos rfl];exact h⟩;clear h d1 d2 d3
     go_wp2_with fail
     go_meet
     case rel=>exact ⟨true,rfl,H',H0_1,H1_1,H2_1,HB1⟩
    have e3 : (a0_1 == 100000)=false:=zY.mpr d3;rw [if_neg (fun h9=>h9.2.elim d2 d3)] at h;have H' : Aside0 ((if false=true then some (l0_0,a0_1,0,7) else ((Fc.f k l0_0 a0_1).bind fun t=>(if pl<(t.1.length : Int)∧t.1.length≤1000000∧wrap64 (t.2+1)=t.2+1 then some (F8.out t.1 t.2 pl.toNat (rd_T60 t.1 pl).f0 (F8.row l a1_0 a1_1 im)) else none)))=some (r1,r2,r3,r4)):=⟨jBb⟩;clear h d1 d2 d3
    go_wp2_with fail
    go_meet
    case rel=>exact ⟨false,rfl,H',H0_1,H1_1,H2_1,HB1⟩
   case rest =>
    clear HH H0_1 H1_1 H2_1 HB1;obtain ⟨b8,rfl,HH,H0_3,H1_3,H2_3,HB3⟩:=hcut
    cases b8
    case true =>
     have h:=HH.out;rw [if_pos rfl] at h;simp only [Option.some.injEq,Prod.mk.injEq] at h;clear HH;obtain ⟨rfl,rfl,rfl,rfl⟩:=h;have k0:=zz H0_3.out 0;have k1:=zz H0_3.out 1;have k2:=zz H2_3.out 0;have k3:=zz H2_3.out 1;have f0:=zA H2_3.out 0;have f1:=zA H2_3.out 1
     go_wp2_with fail
     refine bodyPost_ret (results_ctt rfl _ _ g2 25 #[.slice (some ad) l0_0.length c0_0,.int .i64 a0_1] (0,0) _ rfl (blk_set (blk_set H2_3.out 0 (.slice (some ad) l0_0.length c0_0)) 1 (.int .i64 a0_1)) hu25 rfl jA) rfl ?_;exact ⟨_,rfl,Kd.V_mk hc0_0 (Kd.F_mono (Kd.F_far (p:=⟨g2,1,none⟩) (Kd.F_far (p:=⟨g2,0,none⟩) (Kd.F_below (Kd.F_bound HF0.out) HB3.out) (fun _ hk e9=>by rw [e9] at hk;exact Nat.lt_irrefl _ (Nat.lt_of_lt_of_le hk.2 GB2.out)) _) (fun _ hk e9=>by rw [e9] at hk;exact Nat.lt_irrefl _ (Nat.lt_of_lt_of_le hk.2 GB2.out)) _) (fun _ hk => .inl hk.1)),zd (zd HB3.out GB2.out) GB2.out⟩
    have h:=HH.out;rw [if_neg jB] at h;clear HH;obtain ⟨w3,rfl⟩ : ∃ w3,w3=wc:=⟨_,rfl⟩;obtain ⟨⟨T1,n1⟩,hT,h⟩:=zT.mp h;simp only at h
    by_cases hTb : pl<(T1.length : Int)∧T1.length≤1000000∧wrap64 (n1+1)=n1+1
    case neg=>rw [if_neg hTb] at h;cases h
    rw [if_pos hTb] at h;obtain ⟨hT1,hT2,hT3⟩:=hTb;have HO:=zh (zU h);have HT3 : Aside0 (IntKind.i64.wrap (n1+1)=n1+1):=⟨(zG _).trans hT3⟩;clear h hT3;have k0:=(zz H0_3.out 0).trans (show _=some (.slice (some ad) l0_0.length c0_0) from rfl);have k1:=(zz H0_3.out 1).trans (show _=some (.int .i64 a0_1) from rfl);have f0:=zA H0_3.out 0;have f1:=zA H0_3.out 1
    go_wp2_with fail
    go_at_call 37
    refine (Fc.calls k (some ad) c0_0 l0_0 a0_1 T1 n1 w3 (Kd.F_now (Kd.F_below HF0.out HB3.out)) hc0_0 hT).mono ?_;rintro e w4 ⟨v4,rfl,hS4,hb_⟩;have HB4:=zh (zC HB3.out hb_);have H0_4:=zh (zD H0_3.out hb_);have H1_4:=zh (zD H1_3.out hb_);have H2_4:=zh (zD H2_3.out hb_);have L0 : Aside0 (g0<w3.heap.size):=⟨yi H0_3.out⟩;have L1 : Aside0 (g1<w3.heap.size):=⟨yi H1_3.out⟩;have L2 : Aside0 (g2<w3.heap.size):=⟨yi H2_3.out⟩;obtain ⟨g,cg,rfl,gb,gl,cg_,hg_⟩:=Kd.S_form hS4 jE;have HN4:=zh (Kd.N_mono (Kd.S_N (Kd.S_lower (Kd.S_bound hS4) HB3.out.size)) (ok':=fun k_=>w3.heap.size≤k_) (fun _ hk=>hk.2.1));have GG:=zh gb;clear k0 k1 f0 f1 hS4 hb_ hT HB3 H0_3 H1_3 H2_3 hg_;have k0:=zz H0_4.out 0;have k1:=zz H0_4.out 1;have f0:=zA H0_4.out 0;have f1:=zA H0_4.out 1
    go_wp2_with fail
    have HB5 : Aside0 (Below w.heap.size w ((w4.setCell ⟨g0,0,none⟩ (.slice (some ⟨g,0,none⟩) T1.length cg)).setCell ⟨g0,1,none⟩ (.int .i64 n1))):=⟨zd (zd HB4.out GB0.out) GB0.out⟩;have H0_5 : Aside0 (((w4.setCell ⟨g0,0,none⟩ (.slice (some ⟨g,0,none⟩) T1.length cg)).setCell ⟨g0,1,none⟩ (.int .i64 n1)).heap[g0]? = some (.cells #[.slice (some ⟨g,0,none⟩) T1.length cg,.int .i64 n1] 25 (0,0))):=⟨blk_set (blk_set H0_4.out 0 _) 1 _⟩;have H1_5 : Aside0 (((w4.setCell ⟨g0,0,none⟩ (.slice (some ⟨g,0,none⟩) T1.length cg)).setCell ⟨g0,1,none⟩ (.int .i64 n1)).heap[g1]? = some (.cells #[.string a1_0,.int .i64 a1_1] 28 (0,0))):=⟨(Below.heap_setCell _ ⟨g0,1,none⟩ _ g1 N10.out).trans ((Below.heap_setCell _ ⟨g0,0,none⟩ _ g1 N10.out).trans H1_4.out)⟩;have H2_5 : Aside0 (((w4.setCell ⟨g0,0,none⟩ (.slice (some ⟨g,0,none⟩) T1.length cg)).setCell ⟨g0,1,none⟩ (.int .i64 n1)).heap[g2]? = some (.cells #[.slice none 0 0,.int .i64 0] 25 (0,0))):=⟨(Below.heap_setCell _ ⟨g0,1,none⟩ _ g2 (Ne.symm N02.out)).trans ((Below.heap_setCell _ ⟨g0,0,none⟩ _ g2 (Ne.symm N02.out)).trans H2_4.out)⟩;have HN5 : Aside0 (Kd.N k60 60 ((w4.setCell ⟨g0,0,none⟩ (.slice (some ⟨g,0,none⟩) T1.length cg)).setCell ⟨g0,1,none⟩ (.int .i64 n1)) w.heap.size (fun k_=>w3.heap.size≤k_) (.slice (some ⟨g,0,none⟩) T1.length cg) T1):=⟨Kd.N_far (p:=⟨g0,1,none⟩) (Kd.N_far (p:=⟨g0,0,none⟩) HN4.out (fun _ hk e9=>by rw [e9] at hk;exact Nat.lt_irrefl _ (Nat.lt_of_lt_of_le L0.out hk)) _) (fun _ hk e9=>by rw [e9] at hk;exact Nat.lt_irrefl _ (Nat.lt_of_lt_of_le L0.out hk)) _⟩;have L35 : Aside0 (w3.heap.size≤((w4.setCell ⟨g0,0,none⟩ (.slice (some ⟨g,0,none⟩) T1.length cg)).setCell ⟨g0,1,none⟩ (.int .i64 n1)).heap.size):=⟨by simp;exact Nat.le_trans gb (Nat.le_of_lt gl)⟩;have GL5 : Aside0 (g<((w4.setCell ⟨g0,0,none⟩ (.slice (some ⟨g,0,none⟩) T1.length cg)).setCell ⟨g0,1,none⟩ (.int .i64 n1)).heap.size):=⟨by simpa using gl⟩;clear k0 k1 f0 f1 HB4 H0_4 H1_4 H2_4 HN4 gb gl;generalize ((w4.setCell ⟨g0,0,none⟩ (.slice (some ⟨g,0,none⟩) T1.length cg)).setCell ⟨g0,1,none⟩ (.int .i64 n1))=w5 at *;have hgw : w.heap.size≤g:=Nat.le_trans GB0.out (Nat.le_trans (Nat.le_of_lt L0.out) GG.out);have g0g : g0≠g:=fun e9=>Nat.lt_irrefl _ (Nat.lt_of_lt_of_le L0.out (e9 ▸ GG.out));have g1g : g1≠g:=fun e9=>Nat.lt_irrefl _ (Nat.lt_of_lt_of_le L1.out (e9 ▸ GG.out));have g2g : g2≠g:=fun e9=>Nat.lt_irrefl _ (Nat.lt_of_lt_of_le L2.out (e9 ▸ GG.out));have HGW:=zh hgw;have G0G:=zh g0g;have G1G:=zh g1g;have G2G:=zh g2g;clear hgw g0g g1g g2g;have hTp1:=eq_true hT1;have hKp0:=eq_true hK0;have HT1:=zh hT1;have HT2:=zh hT2;clear hT1 hT2
    go_wp2_with fail
    have hi4 : (0 : Int)≤(im : Int):=Int.natCast_nonneg im;have hi5 : (im : Int)≤(l.length : Int):=Int.ofNat_le.2 HIL.out;obtain ⟨i0_,hi0_,_,hsz_,_⟩:=info_parts info28;have hcut1:=cut_to (P:=Try.prog) 33 28 .i64 Try.underlying33 hi0_ Al l.length cl (im : Int) hi4 hi5 HLC.out;have hcut2:=cut_from (P:=Try.prog) 33 28 .i64 Try.underlying33 hi0_ 2 hsz_ Al l.length cl (im : Int) hi4 hi5;rw [Int.toNat_natCast] at hcut1 hcut2;have hC1:=Kd.F_imp HFl.out (fun _ hC=>Kd.C_take (m:=im) hC HIL.out);have hC2:=Kd.F_imp HFl.out (fun _ hC=>Kd.C_drop (c:=cl) (m:=im) hC HIL.out HLC.out);rw [zx,Nat.min_eq_left HIL.out] at hC1;rw [zw] at hC2;obtain ⟨A2,hA2⟩ : ∃ A2,A2=(if cl=im then Al else Al.map (·.add (im*2))):=⟨_,rfl⟩;rw [← hA2] at hcut2;replace hC2 : Kd.F k28 w (fun k_=>P0_0_ k_) A2 (l.length - im) (l.drop im):=by rw [hA2];exact hC2
    have HC1:=zh hC1;have HC2:=zh hC2;clear hC1 hC2 hA2 hi0_ hsz_;have HB7:=zh (zc HB5.out);have H0_7:=zh (zf H0_5.out);have H1_7:=zh (zf H1_5.out);have H2_7:=zh (zf H2_5.out);have HN7:=zh (Kd.N_drew HN5.out);have L37 : Aside0 (w3.heap.size≤w5.drew.heap.size):=L35;have GL7 : Aside0 (g<w5.drew.heap.size):=GL5;refine start_ (n:=13) (S:=fun w' => w'.cell? ⟨g1,0,none⟩=some (.string a1_0)∧w'.cell? ⟨g1,1,none⟩=some (.int .i64 a1_1)) (ds:=[]) (bm_ 0 13) jA rfl rfl ⟨(zz H1_7.out 0).trans rfl,(zz H1_7.out 1).trans rfl⟩ (fun hHeld=>?_);generalize w5.drew=w7 at HB7 H0_7 H1_7 H2_7 HN7 L37 GL7 hHeld ⊢;clear HB5 H0_5 H1_5 H2_5 HN5 L35 GL5;refine pure_ (i:=1) (N:=some 66) (v:=?_) (a':=?_) #[false,true,false,false,false,false,false,false,false,false,false,false,false] rfl rfl jA (fun _ _ _ h=>h) (Or.inl ⟨by rfl,?_⟩) ?_ ?_;rotate_left;exact jb;rotate_left;exact jc
    refine pure_ (i:=2) (N:=some 67) (v:=?_) (a':=?_) #[false,true,true,false,false,false,false,false,false,false,false,false,false] rfl rfl jA (fun _ _ _ h=>h) (Or.inl ⟨by rfl,?_⟩) ?_ ?_;rotate_left;exact jb;rotate_left;exact jc
    refine pure_ (i:=3) (N:=some 68) (v:=?_) (a':=?_) #[false,true,true,true,false,false,false,false,false,false,false,false,false] rfl rfl jA (fun _ _ _ h=>h) (Or.inl ⟨by rfl,?_⟩) ?_ ?_;rotate_left;exact jb;rotate_left;exact jc
    refine pure_ (i:=8) (N:=some 73) (v:=?_) (a':=?_) #[false,true,true,true,false,false,false,false,true,false,false,false,false] rfl rfl jA (fun _ _ _ h=>h) (Or.inl ⟨by rfl,?_⟩) ?_ ?_;rotate_left;exact jb;rotate_left;exact jc
    refine pure_ (i:=9) (N:=some 74) (v:=?_) (a':=?_) #[false,true,true,true,false,false,false,false,true,true,false,false,false] rfl rfl jA (fun _ _ _ h=>h) (Or.inl ⟨by rfl,?_⟩) ?_ ?_;rotate_left;exact jb;rotate_left;exact jc
    refine pure_ (i:=10) (N:=some 75) (v:=?_) (a':=?_) #[false,true,true,true,false,false,false,false,true,true,true,false,false] rfl rfl jA (fun _ _ _ h=>h) (Or.inl ⟨by rfl,?_⟩) ?_ ?_;rotate_left;exact jb;rotate_left;exact jc
    refine take_ (i:=5) (N:=some 70) (v:=?_) (a':=?_) #[false,true,true,true,false,true,false,false,true,true,true,false,false] rfl rfl jA (fun _ _ _ h=>h) (Or.inl ⟨by rfl,?_⟩) hHeld ?_ ?_;rotate_left
    ·
     rintro w' ⟨s0,s1⟩
     go_simp
     with_reducible rfl
    rotate_left
    exact jc
    refine join_ (σ:=Value×Value×(Option Addr×Nat)) 3 #[true,true,true,true,true,true,true,false,true,true,true,false,false] (fun s => [(65,s.1),(69,s.2.1),(71,.slice s.2.2.1 1 s.2.2.2)]) (fun s w' => Kd.R k28 28 w' w7.heap.size (fun _=>True) s.2.1 ([]++l.take im)∧Kd.C k28 w' s.2.2.1 1 [(⟨a1_0,a1_1⟩ : S28)]∧Below w7.heap.size w7 w') ?_ ?_;rotate_left
    ·
     intro hCont
     refine two_ (i:=0) (j:=6) (Ni:=some 65) (Nj:=some 71) #[true,true,true,true,false,true,false,false,true,true,true,false,false] #[false,true,true,true,false,true,true,false,true,true,true,false,false] rfl rfl rfl rfl jA jB jB (fun K hK=>?_) (fun K hK=>?_)
     ·
      skip
      refine Kd.R_lit_step k28 _ 28 ?hg (N:=65) ?hd (xs:=([] : List (S28))) (inner:=[]) (ok:=fun _=>True) (okp:=fun _=>True) ?hr ?hp (fun _ hk=>hk) trivial (Below.refl _ _) (ye _) (by simp) ?_;(case hd=>rfl);(case hg=>rfl);(case hr=>go_simp <;> rfl);(case hp=>exact (Reps.none _ _));intro va wa hRa hba_ hga_ hna_;clear hga_ hna_;have hb0:=zC (Below.refl w7.heap.size w7) hba_;refine hK.out _ _ ⟨(zz (zD H1_7.out hb0) 0).trans rfl,(zz (zD H1_7.out hb0) 1).trans rfl⟩ (fun hHeld=>?_);clear hK K;refine norm_ (a':=?_) ?_ ?_;rotate_left
      ·
       show Act.put _ (some 65) _=_
       simp only [Act.put,zi,zj,zk,zG,zH]
       rfl
      refine two_ (i:=4) (j:=6) (Ni:=some 69) (Nj:=some 71) #[true,true,true,true,true,true,false,false,true,true,true,false,false] #[true,true,true,true,false,true,true,false,true,true,true,false,false] rfl rfl rfl rfl jA jB jB (fun K hK=>?_) (fun K hK=>?_)
      ·
       skip
       refine Kd.R_append_rows_step k28 (w0:=w7) w7.heap.size (by rfl) (.tmp 65) (.tmp 68) 33 28 (.agg #[(.string ⟨#[]⟩),(.int .i64 0)]) 24 rfl Try.underlying33 info28 rfl jB jB va ([] : List (S28)) (l.take im) Al im cl (fun _=>True) (fun _=>False) (by rfl) (by rfl) (yx hRa (ye _)) (Kd.F_now (Kd.F_below HC1.out (zC HB7.out hb0))) (fun x cs h9=>F8.K_M x cs h9) (fun _ h9=>h9.elim) (fun _ _=>trivial) hb0 hb0.size jAq ?_;intro vb wb hRb hb4 hg4 hat4;refine hK.out _ _ ⟨(zz (zD H1_7.out hb4) 0).trans rfl,(zz (zD H1_7.out hb4) 1).trans rfl⟩ (fun hHeld=>?_);clear hK K;refine norm_ (a':=?_) ?_ ?_;rotate_left
       ·
        show Act.put _ (some 69) _=_
        simp only [Act.put,zi,zj,zk,zG,zH]
        rfl
       refine one_ (i:=6) (N:=some 71) #[true,true,true,true,true,true,true,false,true,true,true,false,false] rfl rfl jA jB (fun K hK=>?_);refine Kd.R_lit_step k28 _ 28 ?hg (N:=71) ?hd (xs:=[(⟨a1_0,a1_1⟩ : S28)]) (inner:=[.string a1_0,.int .i64 a1_1]) (ok:=fun _=>True) (okp:=fun _=>True) ?hr ?hp (fun _ hk=>hk) trivial (Below.refl _ _) (ye _) (by simp) ?_;(case hd=>rfl);(case hg=>rfl);(case hr=>go_simp <;> rfl);(case hp=>exact (Go.Proofs.Ytgifonogfgpjdaa.Row.reps_one (k28_mkM _ _ _ (⟨a1_0,a1_1⟩ : S28)) rfl));intro vl wl hRl hbl_ hga_ hna_;clear hga_ hna_;obtain ⟨Ax,cx,hvl⟩:=yk hRl;replace hvl : vl = .slice Ax 1 cx:=hvl;subst hvl;have hb6:=zC hb4 hbl_;refine hK.out _ _ ⟨(zz (zD H1_7.out hb6) 0).trans rfl,(zz (zD H1_7.out hb6) 1).trans rfl⟩ (fun hHeld=>?_);clear hK K;refine norm_ (a':=?_) ?_ ?_;rotate_left
       ·
        show Act.put _ (some 71) _=_
        simp only [Act.put,zi,zj,zk,zG,zH]
        rfl
       exact norm_ jAG (hCont (va,vb,(Ax,cx)) _ ⟨yg hRb hbl_,(yh hRl).2.2,hb6⟩)
      skip
      refine Kd.R_lit_step k28 _ 28 ?hg (N:=71) ?hd (xs:=[(⟨a1_0,a1_1⟩ : S28)]) (inner:=[.string a1_0,.int .i64 a1_1]) (ok:=fun _=>True) (okp:=fun _=>True) ?hr ?hp (fun _ hk=>hk) trivial (Below.refl _ _) (ye _) (by simp) ?_;(case hd=>rfl);(case hg=>rfl);(case hr=>go_simp <;> rfl);(case hp=>exact (Go.Proofs.Ytgifonogfgpjdaa.Row.reps_one (k28_mkM _ _ _ (⟨a1_0,a1_1⟩ : S28)) rfl));intro vl wl hRl hbl_ hga_ hna_;clear hga_ hna_;obtain ⟨Ax,cx,hvl⟩:=yk hRl;replace hvl : vl = .slice Ax 1 cx:=hvl;subst hvl;have hb6:=zC hb0 hbl_;refine hK.out _ _ ⟨(zz (zD H1_7.out hb6) 0).trans rfl,(zz (zD H1_7.out hb6) 1).trans rfl⟩ (fun hHeld=>?_);clear hK K;refine norm_ (a':=?_) ?_ ?_;rotate_left
      ·
       show Act.put _ (some 71) _=_
       simp only [Act.put,zi,zj,zk,zG,zH]
       rfl
      refine one_ (i:=4) (N:=some 69) #[true,true,true,true,true,true,true,false,true,true,true,false,false] rfl rfl jA jB (fun K hK=>?_);refine Kd.R_append_rows_step k28 (w0:=w7) w7.heap.size (by rfl) (.tmp 65) (.tmp 68) 33 28 (.agg #[(.string ⟨#[]⟩),(.int .i64 0)]) 24 rfl Try.underlying33 info28 rfl jB jB va ([] : List (S28)) (l.take im) Al im cl (fun _=>True) (fun _=>False) (by rfl) (by rfl) (yg (yx hRa (ye _)) hbl_) (Kd.F_now (Kd.F_below HC1.out (zC HB7.out hb6))) (fun x cs h9=>F8.K_M x cs h9) (fun _ h9=>h9.elim) (fun _ _=>trivial) hb6 hb6.size jAq ?_;intro vb wb hRb hb4 hg4 hat4;refine hK.out _ _ ⟨(zz (zD H1_7.out hb4) 0).trans rfl,(zz (zD H1_7.out hb4) 1).trans rfl⟩ (fun hHeld=>?_);clear hK K;refine norm_ (a':=?_) ?_ ?_;rotate_left
      ·
       show Act.put _ (some 69) _=_
       simp only [Act.put,zi,zj,zk,zG,zH]
       rfl
      exact norm_ jAG (hCont (va,vb,(Ax,cx)) _ ⟨hRb,(yh (Kd.R_grown (Kd.R_bound hRl) hg4 (fun k_ hk he=>Nat.lt_irrefl _ (Nat.lt_of_lt_of_le (Kd.R_lt hRa k_ he.symm) hk.2.1)))).2.2,hb4⟩)
     skip
     refine Kd.R_lit_step k28 _ 28 ?hg (N:=71) ?hd (xs:=[(⟨a1_0,a1_1⟩ : S28)]) (inner:=[.string a1_0,.int .i64 a1_1]) (ok:=fun _=>True) (okp:=fun _=>True) ?hr ?hp (fun _ hk=>hk) trivial (Below.refl _ _) (ye _) (by simp) ?_;(case hd=>rfl);(case hg=>rfl);(case hr=>go_simp <;> rfl);(case hp=>exact (Go.Proofs.Ytgifonogfgpjdaa.Row.reps_one (k28_mkM _ _ _ (⟨a1_0,a1_1⟩ : S28)) rfl));intro vl wl hRl hbl_ hga_ hna_;clear hga_ hna_;obtain ⟨Ax,cx,hvl⟩:=yk hRl;replace hvl : vl = .slice Ax 1 cx:=hvl;subst hvl;have hb6:=zC (Below.refl w7.heap.size w7) hbl_;refine hK.out _ _ ⟨(zz (zD H1_7.out hb6) 0).trans rfl,(zz (zD H1_7.out hb6) 1).trans rfl⟩ (fun hHeld=>?_);clear hK K;refine norm_ (a':=?_) ?_ ?_;rotate_left
     ·
      show Act.put _ (some 71) _=_
      simp only [Act.put,zi,zj,zk,zG,zH]
      rfl
     refine one_ (i:=0) (N:=some 65) #[true,true,true,true,false,true,true,false,true,true,true,false,false] rfl rfl jA jB (fun K hK=>?_);refine Kd.R_lit_step k28 _ 28 ?hg (N:=65) ?hd (xs:=([] : List (S28))) (inner:=[]) (ok:=fun _=>True) (okp:=fun _=>True) ?hr ?hp (fun _ hk=>hk) trivial (Below.refl _ _) (ye _) (by simp) ?_;(case hd=>rfl);(case hg=>rfl);(case hr=>go_simp <;> rfl);(case hp=>exact (Reps.none _ _));intro va wa hRa hba_ hga_ hna_;clear hga_ hna_;have hb0:=zC hb6 hba_;refine hK.out _ _ ⟨(zz (zD H1_7.out hb0) 0).trans rfl,(zz (zD H1_7.out hb0) 1).trans rfl⟩ (fun hHeld=>?_);clear hK K;refine norm_ (a':=?_) ?_ ?_;rotate_left
     ·
      show Act.put _ (some 65) _=_
      simp only [Act.put,zi,zj,zk,zG,zH]
      rfl
     refine one_ (i:=4) (N:=some 69) #[true,true,true,true,true,true,true,false,true,true,true,false,false] rfl rfl jA jB (fun K hK=>?_);refine Kd.R_append_rows_step k28 (w0:=w7) w7.heap.size (by rfl) (.tmp 65) (.tmp 68) 33 28 (.agg #[(.string ⟨#[]⟩),(.int .i64 0)]) 24 rfl Try.underlying33 info28 rfl jB jB va ([] : List (S28)) (l.take im) Al im cl (fun _=>True) (fun _=>False) (by rfl) (by rfl) (yx hRa hb6.size) (Kd.F_now (Kd.F_below HC1.out (zC HB7.out hb0))) (fun x cs h9=>F8.K_M x cs h9) (fun _ h9=>h9.elim) (fun _ _=>trivial) hb0 hb0.size jAq ?_;intro vb wb hRb hb4 hg4 hat4;refine hK.out _ _ ⟨(zz (zD H1_7.out hb4) 0).trans rfl,(zz (zD H1_7.out hb4) 1).trans rfl⟩ (fun hHeld=>?_);clear hK K;refine norm_ (a':=?_) ?_ ?_;rotate_left
     ·
      show Act.put _ (some 69) _=_
      simp only [Act.put,zi,zj,zk,zG,zH]
      rfl
     exact norm_ jAG (hCont (va,vb,(Ax,cx)) _ ⟨hRb,(yh (Kd.R_grown (yg (Kd.R_bound hRl) hba_) hg4 (fun k_ hk he=>Nat.lt_irrefl _ (Nat.lt_of_lt_of_le hk.2.2.1 (Kd.R_base hRa k_ he.symm))))).2.2,hb4⟩)
    rintro ⟨va,vb,Ax,cx⟩ wt ⟨hRb,hCl,hbt⟩;have hHeld : wt.cell? ⟨g1,0,none⟩=some (.string a1_0)∧wt.cell? ⟨g1,1,none⟩=some (.int .i64 a1_1):=⟨(zz (zD H1_7.out hbt) 0).trans rfl,(zz (zD H1_7.out hbt) 1).trans rfl⟩;refine norm_ (a':=?_) ?_ ?_;rotate_left
    ·
     simp only [putAll,Act.put,zi,zj,zk]
     rfl
    refine one_ (i:=7) (N:=some 72) (bm_ 11 13) rfl rfl jA jB (fun K hK=>?_);refine Kd.R_append_rows_step k28 (w0:=w7) w7.heap.size (by rfl) (.tmp 69) (.tmp 71) 33 28 (.agg #[(.string ⟨#[]⟩),(.int .i64 0)]) 24 rfl Try.underlying33 info28 rfl jB jB vb ([]++l.take im) [(⟨a1_0,a1_1⟩ : S28)] Ax 1 cx (fun _=>True) (fun _=>False) (by rfl) (by rfl) hRb hCl (fun x cs h9=>F8.K_M x cs h9) (fun _ h9=>h9.elim) (fun _ _=>trivial) hbt hbt.size jAq ?_;intro vd wd hRd hbd hg_ hat_;clear hg_ hat_;refine hK.out _ _ ⟨(zz (zD H1_7.out hbd) 0).trans rfl,(zz (zD H1_7.out hbd) 1).trans rfl⟩ (fun hHeld=>?_);clear hK K;refine norm_ (a':=?_) ?_ ?_;rotate_left
    ·
     show Act.put _ (some 72) _=_
     simp only [Act.put,zi,zj,zk,zG,zH]
     rfl
    refine one_ (i:=11) (N:=some 76) (bm_ 12 13) rfl rfl jA jB (fun K hK=>?_);refine Kd.R_append_rows_step k28 (w0:=w7) w7.heap.size (by rfl) (.tmp 72) (.tmp 75) 33 28 (.agg #[(.string ⟨#[]⟩),(.int .i64 0)]) 24 rfl Try.underlying33 info28 rfl jB jB vd (([]++l.take im) ++ [(⟨a1_0,a1_1⟩ : S28)]) (l.drop im) A2 (l.length - im) (cl - im) (fun _=>True) (fun _=>False) (by rfl) (by rfl) hRd (Kd.F_now (Kd.F_below HC2.out (zC HB7.out hbd))) (fun x cs h9=>F8.K_M x cs h9) (fun _ h9=>h9.elim) (fun _ _=>trivial) hbd hbd.size jAq ?_;intro ve we hRe hbe hg_ hat_;clear hg_ hat_;obtain ⟨X,hX⟩ : ∃ X : List (S28),X=(([]++l.take im) ++ [(⟨a1_0,a1_1⟩ : S28)])++l.drop im:=⟨_,rfl⟩;rw [← hX] at hRe;have HX:=zh hX;clear hX;obtain ⟨Ac,cc,rfl⟩:=yk hRe;refine hK.out _ _ ⟨(zz (zD H1_7.out hbe) 0).trans rfl,(zz (zD H1_7.out hbe) 1).trans rfl⟩ (fun hHeld=>?_);clear hK K;refine norm_ (a':=?_) ?_ ?_;rotate_left
    ·
     show Act.put _ (some 76) _=_
     simp only [Act.put,zi,zj,zk,zG,zH]
     rfl
    refine pure_ (i:=12) (N:=some 8) (v:=?_) (a':=?_) (bm_ 13 13) rfl rfl jA (fun _ _ _ h=>h) (Or.inl ⟨by rfl,?_⟩) ?_ ?_;rotate_left;exact jb;rotate_left;exact jc
    refine done_ jA ?_;have hFe : Kd.F k28 we (fun k_=>w7.heap.size≤k_) Ac X.length X:=Kd.F_mono (Kd.R_F (Kd.R_bound hRe)) (fun _ hk=>hk.2.1);have hXc : X.length≤cc:=(yh hRe).2.1;obtain ⟨ce,hcl_,hFK_,hcc_,hfr_⟩:=Kd.N_elem (Kd.N_below HN7.out hbe) z60 pl hK0 HT1.out;obtain ⟨A9,c9,rfl,-,-⟩:=k60_openF hFK_;have q9 : we.cell? ⟨g,pl.toNat*2+1,none⟩=some (.slice A9 (rd_T60 T1 pl).f1.length c9):=hcc_ 1 _ rfl;have f9 : we.frozen? ⟨g,pl.toNat*2+1,none⟩=false:=hfr_ 1;have k0:=(zz (zD H0_7.out hbe) 0).trans (show _=some (.slice (some ⟨g,0,none⟩) T1.length cg) from rfl)
    obtain ⟨hN8,hG8⟩ : Kd.N k60 60 (we.setCell ⟨g,pl.toNat*2+1,none⟩ (.slice Ac X.length cc)) w.heap.size (fun k_=>w3.heap.size≤k_) (.slice (some ⟨g,0,none⟩) T1.length cg) (T1.set pl.toNat (⟨(rd_T60 T1 pl).f0,X⟩ : S60))∧we.grownBy (we.setCell ⟨g,pl.toNat*2+1,none⟩ (.slice Ac X.length cc)) (some g) :=
     Kd.N_seg (Kd.N_below HN7.out hbe) pl hK0 HT1.out (c:=[.int .i64 (rd_T60 T1 pl).f0,.slice A9 (rd_T60 T1 pl).f1.length c9]) (seg:=[.slice Ac X.length cc]) (j:=1) rfl hcc_ (show 1+1≤2 from by decide) (x':=(⟨(rd_T60 T1 pl).f0,X⟩ : S60)) (okp:=fun k_=>w7.heap.size≤k_) (k60_mkF we _ (⟨(rd_T60 T1 pl).f0,X⟩ : S60) hXc hFe) (fun k_ hk=>⟨Nat.le_trans L37.out hk,fun e9=>by rw [e9] at hk;exact Nat.lt_irrefl _ (Nat.lt_of_lt_of_le GL7.out hk)⟩)
    have HN8:=zh hN8;have HXC:=zh hXc;have HFX : Aside0 (Kd.F k28 (we.setCell ⟨g,pl.toNat*2+1,none⟩ (.slice Ac X.length cc)) (fun k_=>w7.heap.size≤k_) Ac X.length X):=⟨Kd.F_far (p:=⟨g,_,none⟩) hFe (fun k_ hk e9=>by rw [e9] at hk;exact Nat.lt_irrefl _ (Nat.lt_of_lt_of_le GL7.out hk)) _⟩;have HB8 : Aside0 (Below w.heap.size w (we.setCell ⟨g,pl.toNat*2+1,none⟩ (.slice Ac X.length cc))):=⟨zd (zC HB7.out hbe) HGW.out⟩;have H0_8 : Aside0 ((we.setCell ⟨g,pl.toNat*2+1,none⟩ (.slice Ac X.length cc)).heap[g0]? = some (.cells #[.slice (some ⟨g,0,none⟩) T1.length cg,.int .i64 n1] 25 (0,0))):=⟨(Below.heap_setCell _ ⟨g,_,none⟩ _ g0 G0G.out).trans (zD H0_7.out hbe)⟩;have H2_8 : Aside0 ((we.setCell ⟨g,pl.toNat*2+1,none⟩ (.slice Ac X.length cc)).heap[g2]? = some (.cells #[.slice none 0 0,.int .i64 0] 25 (0,0))):=⟨(Below.heap_setCell _ ⟨g,_,none⟩ _ g2 G2G.out).trans (zD H2_7.out hbe)⟩;have L78 : Aside0 (w7.heap.size≤(we.setCell ⟨g,pl.toNat*2+1,none⟩ (.slice Ac X.length cc)).heap.size):=⟨by simp;exact hbe.size⟩
    go_upto_region 13 with (fail)
    clear hcut1 hcut2 hN8 hG8 hFe hXc hRb hRd hRe hbt hbd hbe hCl hcl_ hFK_ hcc_ hfr_ q9 f9 k0 HB7 H0_7 H1_7 H2_7 HN7;generalize (we.setCell ⟨g,pl.toNat*2+1,none⟩ (.slice Ac X.length cc))=w8 at *;have hO:=HO.out;have hXe : F8.row l a1_0 a1_1 im=X:=by rw [HX.out];rfl
    rw [hXe] at hO;unfold F8.out at hO;clear hXe
    by_cases hX4 : X.length≤4
    ·
     rw [if_pos hX4] at hO
     simp only [Prod.mk.injEq] at hO;obtain ⟨hY,rfl,rfl,rfl⟩:=hO;have c5 : decide ((X.length : Int)≤4)=true:=decide_eq_true jE;have c5n : decide (X.length≤4)=true:=decide_eq_true hX4;have k0:=zz H0_8.out 0;have k1:=zz H0_8.out 1;have k2:=zz H2_8.out 0;have k3:=zz H2_8.out 1;have f0:=zA H2_8.out 0;have f1:=zA H2_8.out 1;have HV8:=zh (Kd.N_V (base':=w.heap.size) HN8.out);rw [hY] at HV8;clear hY hX4
     go_wp2_with fail
     refine bodyPost_ret (results_ctt rfl _ _ g2 25 #[.slice (some ⟨g,0,none⟩) T1.length cg,.int .i64 n1] (0,0) _ rfl (blk_set (blk_set H2_8.out 0 (.slice (some ⟨g,0,none⟩) T1.length cg)) 1 (.int .i64 n1)) hu25 rfl jA) rfl ?_;exact ⟨_,rfl,Kd.V_mono (Kd.V_far (p:=⟨g2,1,none⟩) (Kd.V_far (p:=⟨g2,0,none⟩) HV8.out (fun _ hk e9=>by rw [e9] at hk;exact Nat.lt_irrefl _ (Nat.lt_of_lt_of_le L2.out hk)) _) (fun _ hk e9=>by rw [e9] at hk;exact Nat.lt_irrefl _ (Nat.lt_of_lt_of_le L2.out hk)) _) (fun _ hk => .inr (Nat.le_trans GB0.out (Nat.le_trans (Nat.le_of_lt L0.out) hk))),zd (zd HB8.out GB2.out) GB2.out⟩
    rw [if_neg hX4] at hO;simp only [Prod.mk.injEq] at hO;obtain ⟨hr1,rfl,rfl,rfl⟩:=hO;have HR1:=zh hr1;have c5 : decide ((X.length : Int)≤4)=false:=decide_eq_false jE;have c5n : decide (X.length≤4)=false:=decide_eq_false hX4;obtain ⟨hf,hhf⟩ : ∃ hf : Nat,hf=X.length / 2:=⟨_,rfl⟩;have hq1 : (X.length : Int) / 2=(hf : Int):=by rw [hhf];omega
    have hq2 : Int.tdiv (X.length : Int) 2=(hf : Int):=by rw [Int.tdiv_eq_ediv_of_nonneg (Int.natCast_nonneg _)];exact hq1
    have hfl : hf≤X.length:=by rw [hhf];exact Nat.div_le_self _ _
    have HHF:=zh hhf;have HFL:=zh hfl
    have hq3 : wrap64 (hf : Int)=(hf : Int):=by
     have h8 : X.length≤1000001:=by rw [HX.out];have:=HLM.out.2;have:=HIL.out;simp;omega
     have h9 : hf≤1000001:=Nat.le_trans hfl h8;unfold wrap64;omega
    have XL : Aside0 (X.length≤1000001):=⟨by rw [HX.out];have:=HLM.out.2;have:=HIL.out;simp;omega⟩;clear hr1 hX4 hhf hfl
    go_wp2_with fail
    (first|rw [hq3]|simp only [hq3]);clear hq1 hq2 hq3 c5 c5n;have hi4 : (0 : Int)≤(hf : Int):=Int.natCast_nonneg hf;have hi5 : (hf : Int)≤(X.length : Int):=Int.ofNat_le.2 HFL.out;obtain ⟨i0_,hi0_,_,hsz_,_⟩:=info_parts info28;have hcut1:=cut_to (P:=Try.prog) 33 28 .i64 Try.underlying33 hi0_ Ac X.length cc (hf : Int) hi4 hi5 HXC.out;have hcut2:=cut_from (P:=Try.prog) 33 28 .i64 Try.underlying33 hi0_ 2 hsz_ Ac X.length cc (hf : Int) hi4 hi5;rw [Int.toNat_natCast] at hcut1 hcut2;obtain ⟨A2,hA2⟩ : ∃ A2,A2=(if cc=hf then Ac else Ac.map (·.add (hf*2))):=⟨_,rfl⟩;rw [← hA2] at hcut2;have HA2:=zh hA2;have hC1:=Kd.F_imp HFX.out (fun _ hC=>Kd.C_take (m:=hf) hC HFL.out);rw [zx,Nat.min_eq_left HFL.out] at hC1;have HC1:=zh (Kd.F_drew hC1);have HFX9:=zh (Kd.F_drew HFX.out);have HB9:=zh (zc HB8.out);have H0_9:=zh (zf H0_8.out);have H2_9:=zh (zf H2_8.out);have HN9:=zh (Kd.N_drew HN8.out);have L79 : Aside0 (w7.heap.size≤w8.drew.heap.size):=L78;have HYL : Aside0 ((T1.set pl.toNat (⟨(rd_T60 T1 pl).f0,X⟩ : S60)).length=T1.length):=⟨by rw [List.length_set]⟩;clear hC1 hA2 hi0_ hsz_;refine start_ (n:=11) (S:=fun w' => w'.cell? ⟨g0,0,none⟩=some (.slice (some ⟨g,0,none⟩) T1.length cg)) (ds:=[10]) (bm_ 0 11) jA rfl rfl ((zz H0_9.out 0).trans rfl) (fun hHeld=>?_);generalize w8.drew=w9 at HB9 H0_9 H2_9 HN9 HC1 HFX9 L79 hHeld ⊢;clear HB8 H0_8 H2_8 HN8 HFX L78;refine pure_ (i:=0) (N:=some 90) (v:=?_) (a':=?_) (bm_ 1 11) rfl rfl jA (fun _ _ _ h=>h) (Or.inl ⟨by rfl,?_⟩) ?_ ?_;rotate_left;exact jb;rotate_left;exact jc
    refine pure_ (i:=2) (N:=some 92) (v:=?_) (a':=?_) #[true,false,true,false,false,false,false,false,false,false,false] rfl rfl jA (fun _ _ _ h=>h) (Or.inl ⟨by rfl,?_⟩) ?_ ?_;rotate_left;exact jb;rotate_left;exact jc
    refine pure_ (i:=4) (N:=some 94) (v:=?_) (a':=?_) #[true,false,true,false,true,false,false,false,false,false,false] rfl rfl jA (fun _ _ _ h=>h) (Or.inl ⟨by rfl,?_⟩) ?_ ?_;rotate_left;exact jb;rotate_left;exact jc
    refine pure_ (i:=5) (N:=some 95) (v:=?_) (a':=?_) #[true,false,true,false,true,true,false,false,false,false,false] rfl rfl jA (fun _ _ _ h=>h) (Or.inl ⟨by rfl,?_⟩) ?_ ?_;rotate_left;exact jb;rotate_left;exact jc
    refine pure_ (i:=6) (N:=some 96) (v:=?_) (a':=?_) #[true,false,true,false,true,true,true,false,false,false,false] rfl rfl jA (fun _ _ _ h=>h) (Or.inl ⟨by rfl,?_⟩) ?_ ?_;rotate_left;exact jb;rotate_left;exact jc
    refine take_ (i:=1) (N:=some 91) (v:=?_) (a':=?_) #[true,true,true,false,true,true,true,false,false,false,false] rfl rfl jA (fun _ _ _ h=>h) (Or.inl ⟨by rfl,?_⟩) hHeld ?_ ?_;rotate_left
    ·
     intro w' s0
     go_simp
     with_reducible rfl
    rotate_left
    exact jc
    refine one_ (i:=3) (N:=some 93) (bm_ 7 11) rfl rfl jA jB (fun K hK=>?_);refine Kd.R_lit_step k28 _ 28 ?hg (N:=93) ?hd (xs:=([] : List (S28))) (inner:=[]) (ok:=fun _=>True) (okp:=fun _=>True) ?hr ?hp (fun _ hk=>hk) trivial (Below.refl _ _) (ye _) (by simp) ?_;(case hd=>rfl);(case hg=>rfl);(case hr=>go_simp <;> rfl);(case hp=>exact (Reps.none _ _));intro va wa hRa hba hga_ hna_;clear hga_ hna_;refine hK.out _ _ ((zz (zD H0_9.out hba) 0).trans rfl) (fun hHeld=>?_);clear hK K;refine norm_ (a':=?_) ?_ ?_;rotate_left
    ·
     show Act.put _ (some 93) _=_
     simp only [Act.put,zi,zj,zk,zG,zH]
     rfl
    refine one_ (i:=7) (N:=some 97) (bm_ 8 11) rfl rfl jA jB (fun K hK=>?_);refine Kd.R_append_rows_step k28 (w0:=w9) w9.heap.size (by rfl) (.tmp 93) (.tmp 96) 33 28 (.agg #[(.string ⟨#[]⟩),(.int .i64 0)]) 24 rfl Try.underlying33 info28 rfl jB jB va ([] : List (S28)) (X.take hf) Ac hf cc (fun _=>True) (fun _=>False) (by rfl) (by rfl) hRa (Kd.F_now (Kd.F_below HC1.out hba)) (fun x cs h9=>F8.K_M x cs h9) (fun _ h9=>h9.elim) (fun _ _=>trivial) hba hba.size jA4 ?_;intro vb wb hRb hbb hg_ hat_;clear hg_ hat_;obtain ⟨X1,hX1⟩ : ∃ X1 : List (S28),X1=[]++X.take hf:=⟨_,rfl⟩;rw [← hX1] at hRb;have HX1:=zh hX1;clear hX1;obtain ⟨Am,cm,rfl⟩:=yk hRb;obtain ⟨ce,hcl_,hFK_,hcc_,hfr_⟩:=Kd.N_elem (Kd.N_below HN9.out hbb) z60 pl hK0 HT1.out;obtain ⟨A9,c9,rfl,-,-⟩:=k60_openF hFK_;have q9 : wb.cell? ⟨g,pl.toNat*2+1,none⟩=some (.slice A9 (rd_T60 (T1.set pl.toNat (⟨(rd_T60 T1 pl).f0,X⟩ : S60)) pl).f1.length c9):=hcc_ 1 _ rfl;have f9 : wb.frozen? ⟨g,pl.toNat*2+1,none⟩=false:=hfr_ 1;refine hK.out _ _ ((zz (zD H0_9.out hbb) 0).trans rfl) (fun hHeld=>?_);clear hK K;refine norm_ (a':=?_) ?_ ?_;rotate_left
    ·
     show Act.put _ (some 97) _=_
     simp only [Act.put,zi,zj,zk,zG,zH]
     rfl
    refine pure_ (i:=8) (N:=some 98) (v:=?_) (a':=?_) (bm_ 9 11) rfl rfl jA (fun _ _ _ h=>h) (Or.inl ⟨by rfl,?_⟩) ?_ ?_;rotate_left;exact jb;rotate_left;exact jc
    refine pure_ (i:=9) (N:=some 99) (v:=?_) (a':=?_) (bm_ 10 11) rfl rfl jA (fun _ _ _ h=>h) (Or.inl ⟨by rfl,?_⟩) ?_ ?_;rotate_left;exact jb;rotate_left;exact jc
    refine last_ (i:=10) (N:=none) (bm_ 11 11) rfl rfl jA jB (fun K hK=>?_);refine skip_ (w1:=?_) (by rfl) rfl ?_ ?_;rotate_left
    ·
     go_simp
     rfl
    refine hK.out _ _ ?_;clear hK K;refine done_ jA ?_;have hFe : Kd.F k28 wb (fun k_=>w9.heap.size≤k_) Am X1.length X1:=Kd.F_mono (Kd.R_F (Kd.R_bound hRb)) (fun _ hk=>hk.2.1);have hXc : X1.length≤cm:=(yh hRb).2.1
    have erd : rd_T60 (T1.set pl.toNat (⟨(rd_T60 T1 pl).f0,X⟩ : S60)) pl=(⟨(rd_T60 T1 pl).f0,X⟩ : S60):=by
     have:=HT1.out;unfold rd_T60;rw [List.getD_eq_getElem?_getD,List.getElem?_set_self jE];rfl
    obtain ⟨hN8,hG8⟩ : Kd.N k60 60 (wb.setCell ⟨g,pl.toNat*2+1,none⟩ (.slice Am X1.length cm)) w.heap.size (fun k_=>w3.heap.size≤k_) (.slice (some ⟨g,0,none⟩) T1.length cg) ((T1.set pl.toNat (⟨(rd_T60 T1 pl).f0,X⟩ : S60)).set pl.toNat (⟨(rd_T60 T1 pl).f0,X1⟩ : S60))∧wb.grownBy (wb.setCell ⟨g,pl.toNat*2+1,none⟩ (.slice Am X1.length cm)) (some g) :=
     Kd.N_seg (Kd.N_below HN9.out hbb) pl hK0 HT1.out (c:=[.int .i64 (rd_T60 (T1.set pl.toNat (⟨(rd_T60 T1 pl).f0,X⟩ : S60)) pl).f0,.slice A9 (rd_T60 (T1.set pl.toNat (⟨(rd_T60 T1 pl).f0,X⟩ : S60)) pl).f1.length c9]) (seg:=[.slice Am X1.length cm]) (j:=1) rfl hcc_ (show 1+1≤2 from by decide) (x':=(⟨(rd_T60 T1 pl).f0,X1⟩ : S60)) (okp:=fun k_=>w9.heap.size≤k_) (by rw [erd];exact k60_mkF wb _ (⟨(rd_T60 T1 pl).f0,X1⟩ : S60) hXc hFe) (fun k_ hk=>⟨Nat.le_trans L37.out (Nat.le_trans L79.out hk),fun e9=>by rw [e9] at hk;exact Nat.lt_irrefl _ (Nat.lt_of_lt_of_le GL7.out (Nat.le_trans L79.out hk))⟩)
    have HN10:=zh hN8;have HFX10 : Aside0 (Kd.F k28 (wb.setCell ⟨g,pl.toNat*2+1,none⟩ (.slice Am X1.length cm)) (fun k_=>w7.heap.size≤k_) Ac X.length X):=⟨Kd.F_far (p:=⟨g,_,none⟩) (Kd.F_below HFX9.out hbb) (fun k_ hk e9=>by rw [e9] at hk;exact Nat.lt_irrefl _ (Nat.lt_of_lt_of_le GL7.out hk)) _⟩;have HB10 : Aside0 (Below w.heap.size w (wb.setCell ⟨g,pl.toNat*2+1,none⟩ (.slice Am X1.length cm))):=⟨zd (zC HB9.out hbb) HGW.out⟩;have H0_10 : Aside0 ((wb.setCell ⟨g,pl.toNat*2+1,none⟩ (.slice Am X1.length cm)).heap[g0]? = some (.cells #[.slice (some ⟨g,0,none⟩) T1.length cg,.int .i64 n1] 25 (0,0))):=⟨(Below.heap_setCell _ ⟨g,_,none⟩ _ g0 G0G.out).trans (zD H0_9.out hbb)⟩;have H2_10 : Aside0 ((wb.setCell ⟨g,pl.toNat*2+1,none⟩ (.slice Am X1.length cm)).heap[g2]? = some (.cells #[.slice none 0 0,.int .i64 0] 25 (0,0))):=⟨(Below.heap_setCell _ ⟨g,_,none⟩ _ g2 G2G.out).trans (zD H2_9.out hbb)⟩;have L710 : Aside0 (w7.heap.size≤(wb.setCell ⟨g,pl.toNat*2+1,none⟩ (.slice Am X1.length cm)).heap.size):=⟨by simp;exact Nat.le_trans L79.out hbb.size⟩;clear hN8 hG8 hFe hXc erd hRa hRb hba hbb hcl_ hFK_ hcc_ hfr_ q9 f9 HB9 H0_9 H2_9 HN9 HC1 HFX9 L79 hcut1;generalize (wb.setCell ⟨g,pl.toNat*2+1,none⟩ (.slice Am X1.length cm))=w10 at *
    go_wp2_with fail
    have hC2:=Kd.F_imp HFX10.out (fun _ hC=>Kd.C_drop (c:=cc) (m:=hf) hC HFL.out HXC.out);rw [zw] at hC2;replace hC2 : Kd.F k28 w10 (fun k_=>w7.heap.size≤k_) A2 (X.length - hf) (X.drop hf):=by rw [HA2.out];exact hC2
    have HC2:=zh (Kd.F_drew hC2);have HB11:=zh (zc HB10.out);have H0_11:=zh (zf H0_10.out);have H2_11:=zh (zf H2_10.out);have HN11:=zh (Kd.N_drew HN10.out);have L711 : Aside0 (w7.heap.size≤w10.drew.heap.size):=L710;obtain ⟨X2,hX2⟩ : ∃ X2 : List (S28),X2=[]++X.drop hf:=⟨_,rfl⟩;have HX2:=zh hX2;clear hC2 hX2;refine start_ (n:=10) (S:=fun w' => w'.cell? ⟨g0,1,none⟩=some (.int .i64 n1)) (ds:=[9]) (bm_ 0 10) jA rfl rfl ((zz H0_11.out 1).trans rfl) (fun hHeld=>?_);generalize w10.drew=w11 at HB11 H0_11 H2_11 HN11 HC2 L711 hHeld ⊢;clear HB10 H0_10 H2_10 HN10 HFX10 L710;refine pure_ (i:=0) (N:=some 100) (v:=?_) (a':=?_) (bm_ 1 10) rfl rfl jA (fun _ _ _ h=>h) (Or.inl ⟨by rfl,?_⟩) ?_ ?_;rotate_left;exact jb;rotate_left;exact jc
    refine pure_ (i:=3) (N:=some 103) (v:=?_) (a':=?_) #[true,false,false,true,false,false,false,false,false,false] rfl rfl jA (fun _ _ _ h=>h) (Or.inl ⟨by rfl,?_⟩) ?_ ?_;rotate_left;exact jb;rotate_left;exact jc
    refine pure_ (i:=4) (N:=some 104) (v:=?_) (a':=?_) #[true,false,false,true,true,false,false,false,false,false] rfl rfl jA (fun _ _ _ h=>h) (Or.inl ⟨by rfl,?_⟩) ?_ ?_;rotate_left;exact jb;rotate_left;exact jc
    refine pure_ (i:=5) (N:=some 105) (v:=?_) (a':=?_) #[true,false,false,true,true,true,false,false,false,false] rfl rfl jA (fun _ _ _ h=>h) (Or.inl ⟨by rfl,?_⟩) ?_ ?_;rotate_left;exact jb;rotate_left;exact jc
    refine take_ (i:=1) (N:=some 101) (v:=?_) (a':=?_) #[true,true,false,true,true,true,false,false,false,false] rfl rfl jA (fun _ _ _ h=>h) (Or.inl ⟨by rfl,?_⟩) hHeld ?_ ?_;rotate_left
    ·
     intro w' s0
     go_simp
     with_reducible rfl
    rotate_left
    exact jc
    refine join_ (σ:=Value×(Option Addr×Nat)×Nat) 1 (bm_ 9 10) (fun s => [(102,s.1),(106,.slice s.2.1.1 X2.length s.2.1.2),(107,.agg #[.int .i64 n1,.slice s.2.1.1 X2.length s.2.1.2]),(11,.pointer (some ⟨s.2.2,0,none⟩))]) (fun s w' => w'.heap[s.2.2]? = some (.cells #[.int .i64 0,.slice none 0 0] 60 (0,0))∧w11.heap.size≤s.2.2∧Kd.R k28 28 w' w11.heap.size (fun _=>True) (.slice s.2.1.1 X2.length s.2.1.2) X2∧Below w11.heap.size w11 w') ?_ ?_;rotate_left
    ·
     intro hCont
     refine two_ (i:=2) (j:=8) (Ni:=some 102) (Nj:=some 11) (bm_ 6 10) #[true,true,false,true,true,true,false,false,true,false] rfl rfl rfl rfl jA jB jB (fun K hK=>?_) (fun K hK=>?_)
     ·
      skip
      refine Kd.R_lit_step k28 _ 28 ?hg (N:=102) ?hd (xs:=([] : List (S28))) (inner:=[]) (ok:=fun _=>True) (okp:=fun _=>True) ?hr ?hp (fun _ hk=>hk) trivial (Below.refl _ _) (ye _) (by simp) ?_;(case hd=>rfl);(case hg=>rfl);(case hr=>go_simp <;> rfl);(case hp=>exact (Reps.none _ _));intro va wa hRa hba_ hga_ hna_;clear hga_ hna_;have hb2:=zC (Below.refl w11.heap.size w11) hba_;refine hK.out _ _ ((zz (zD H0_11.out hb2) 1).trans rfl) (fun hHeld=>?_);clear hK K;refine norm_ (a':=?_) ?_ ?_;rotate_left
      ·
       show Act.put _ (some 102) _=_
       simp only [Act.put,zi,zj,zk,zG,zH]
       rfl
      refine two_ (i:=6) (j:=8) (Ni:=some 106) (Nj:=some 11) (bm_ 7 10) #[true,true,true,true,true,true,false,false,true,false] rfl rfl rfl rfl jA jB jB (fun K hK=>?_) (fun K hK=>?_)
      ·
       skip
       refine Kd.R_append_rows_step k28 (w0:=w11) w11.heap.size (by rfl) (.tmp 102) (.tmp 105) 33 28 (.agg #[(.string ⟨#[]⟩),(.int .i64 0)]) 24 rfl Try.underlying33 info28 rfl jB jB va ([] : List (S28)) (X.drop hf) A2 (X.length - hf) (cc - hf) (fun _=>True) (fun _=>False) (by rfl) (by rfl) hRa (Kd.F_now (Kd.F_below HC2.out hb2)) (fun x cs h9=>F8.K_M x cs h9) (fun _ h9=>h9.elim) (fun _ _=>trivial) hb2 hb2.size jA4 ?_;intro vb wb hRb hb6 hg6 hat6;rw [← HX2.out] at hRb;obtain ⟨Aq,cq,rfl⟩:=yk hRb;refine hK.out _ _ ((zz (zD H0_11.out hb6) 1).trans rfl) (fun hHeld=>?_);clear hK K;refine norm_ (a':=?_) ?_ ?_;rotate_left
       ·
        show Act.put _ (some 106) _=_
        simp only [Act.put,zi,zj,zk,zG,zH]
        rfl
       refine pure_ (i:=7) (N:=some 107) (v:=?_) (a':=?_) (bm_ 8 10) rfl rfl jA (fun _ _ _ h=>h) (Or.inl ⟨by rfl,?_⟩) ?_ ?_;rotate_left;exact jb;rotate_left;exact jc
       refine one_ (i:=8) (N:=some 11) (bm_ 9 10) rfl rfl jA jB (fun K hK=>?_);refine value_ (w1:=?_) (v:=?_) (by rfl) rfl ?_ ?_;rotate_left 2
       ·
        go_simp
        constructor
        ·
         rfl
        rfl
       refine hK.out _ _ ((zz (zD H0_11.out (za hb6 _)) 1).trans rfl) (fun hHeld=>?_);clear hK K;refine norm_ (a':=?_) ?_ ?_;rotate_left
       ·
        show Act.put _ (some 11) _=_
        simp only [Act.put,zi,zj,zk,zG,zH]
        rfl
       exact norm_ jAG (hCont (va,(Aq,cq),wb.heap.size) _ ⟨(blk_new wb _),hb6.size,(zm hRb _),(za hb6 _)⟩)
      skip
      refine value_ (w1:=?_) (v:=?_) (by rfl) rfl ?_ ?_;rotate_left 2
      ·
       go_simp
       constructor
       ·
        rfl
       rfl
      refine hK.out _ _ ((zz (zD H0_11.out (za hb2 _)) 1).trans rfl) (fun hHeld=>?_);clear hK K;refine norm_ (a':=?_) ?_ ?_;rotate_left
      ·
       show Act.put _ (some 11) _=_
       simp only [Act.put,zi,zj,zk,zG,zH]
       rfl
      refine one_ (i:=6) (N:=some 106) #[true,true,true,true,true,true,true,false,true,false] rfl rfl jA jB (fun K hK=>?_);refine Kd.R_append_rows_step k28 (w0:=w11) w11.heap.size (by rfl) (.tmp 102) (.tmp 105) 33 28 (.agg #[(.string ⟨#[]⟩),(.int .i64 0)]) 24 rfl Try.underlying33 info28 rfl jB jB va ([] : List (S28)) (X.drop hf) A2 (X.length - hf) (cc - hf) (fun _=>True) (fun _=>False) (by rfl) (by rfl) (zm hRa _) (Kd.F_now (Kd.F_below HC2.out (za hb2 _))) (fun x cs h9=>F8.K_M x cs h9) (fun _ h9=>h9.elim) (fun _ _=>trivial) (za hb2 _) (za hb2 _).size jA4 ?_;intro vb wb hRb hb6 hg6 hat6;rw [← HX2.out] at hRb;obtain ⟨Aq,cq,rfl⟩:=yk hRb;refine hK.out _ _ ((zz (zD H0_11.out hb6) 1).trans rfl) (fun hHeld=>?_);clear hK K;refine norm_ (a':=?_) ?_ ?_;rotate_left
      ·
       show Act.put _ (some 106) _=_
       simp only [Act.put,zi,zj,zk,zG,zH]
       rfl
      refine pure_ (i:=7) (N:=some 107) (v:=?_) (a':=?_) (bm_ 9 10) rfl rfl jA (fun _ _ _ h=>h) (Or.inl ⟨by rfl,?_⟩) ?_ ?_;rotate_left;exact jb;rotate_left;exact jc
      exact norm_ jAG (hCont (va,(Aq,cq),wa.heap.size) _ ⟨((hg6.block _ (yi (blk_new wa _)) (fun he=>Nat.lt_irrefl _ (Kd.R_lt hRa _ he.symm))).trans (blk_new wa _)),hb2.size,hRb,hb6⟩)
     skip
     refine value_ (w1:=?_) (v:=?_) (by rfl) rfl ?_ ?_;rotate_left 2
     ·
      go_simp
      constructor
      ·
       rfl
      rfl
     refine hK.out _ _ ((zz (zD H0_11.out (za (Below.refl w11.heap.size w11) _)) 1).trans rfl) (fun hHeld=>?_);clear hK K;refine norm_ (a':=?_) ?_ ?_;rotate_left
     ·
      show Act.put _ (some 11) _=_
      simp only [Act.put,zi,zj,zk,zG,zH]
      rfl
     refine one_ (i:=2) (N:=some 102) #[true,true,true,true,true,true,false,false,true,false] rfl rfl jA jB (fun K hK=>?_);refine Kd.R_lit_step k28 _ 28 ?hg (N:=102) ?hd (xs:=([] : List (S28))) (inner:=[]) (ok:=fun _=>True) (okp:=fun _=>True) ?hr ?hp (fun _ hk=>hk) trivial (Below.refl _ _) (ye _) (by simp) ?_;(case hd=>rfl);(case hg=>rfl);(case hr=>go_simp <;> rfl);(case hp=>exact (Reps.none _ _));intro va wa hRa hba_ hga_ hna_;clear hga_ hna_;have hb2:=zC (za (Below.refl w11.heap.size w11) _) hba_;refine hK.out _ _ ((zz (zD H0_11.out hb2) 1).trans rfl) (fun hHeld=>?_);clear hK K;refine norm_ (a':=?_) ?_ ?_;rotate_left
     ·
      show Act.put _ (some 102) _=_
      simp only [Act.put,zi,zj,zk,zG,zH]
      rfl
     refine one_ (i:=6) (N:=some 106) #[true,true,true,true,true,true,true,false,true,false] rfl rfl jA jB (fun K hK=>?_);refine Kd.R_append_rows_step k28 (w0:=w11) w11.heap.size (by rfl) (.tmp 102) (.tmp 105) 33 28 (.agg #[(.string ⟨#[]⟩),(.int .i64 0)]) 24 rfl Try.underlying33 info28 rfl jB jB va ([] : List (S28)) (X.drop hf) A2 (X.length - hf) (cc - hf) (fun _=>True) (fun _=>False) (by rfl) (by rfl) (yx hRa (za (Below.refl w11.heap.size w11) _).size) (Kd.F_now (Kd.F_below HC2.out hb2)) (fun x cs h9=>F8.K_M x cs h9) (fun _ h9=>h9.elim) (fun _ _=>trivial) hb2 hb2.size jA4 ?_;intro vb wb hRb hb6 hg6 hat6;rw [← HX2.out] at hRb;obtain ⟨Aq,cq,rfl⟩:=yk hRb;refine hK.out _ _ ((zz (zD H0_11.out hb6) 1).trans rfl) (fun hHeld=>?_);clear hK K;refine norm_ (a':=?_) ?_ ?_;rotate_left
     ·
      show Act.put _ (some 106) _=_
      simp only [Act.put,zi,zj,zk,zG,zH]
      rfl
     refine pure_ (i:=7) (N:=some 107) (v:=?_) (a':=?_) (bm_ 9 10) rfl rfl jA (fun _ _ _ h=>h) (Or.inl ⟨by rfl,?_⟩) ?_ ?_;rotate_left;exact jb;rotate_left;exact jc
     exact norm_ jAG (hCont (va,(Aq,cq),w11.heap.size) _ ⟨((hg6.block _ (yi (zD (blk_new w11 _) hba_)) (fun he=>Nat.lt_irrefl _ (Nat.lt_of_lt_of_le (yi (blk_new w11 _)) (Kd.R_base hRa _ he.symm)))).trans (zD (blk_new w11 _) hba_)),(ye _),hRb,hb6⟩)
    rintro ⟨va,⟨Aq,cq⟩,bp⟩ wt ⟨hbox,hbp,hRb,hbt⟩;have q0:=zz hbox 0;have q1:=zz hbox 1;have f0:=zA hbox 0;have f1:=zA hbox 1;refine norm_ (a':=?_) ?_ ?_;rotate_left
    ·
     simp only [putAll,Act.put,zi,zj,zk]
     rfl
    refine last_ (i:=9) (N:=none) (bm_ 10 10) rfl rfl jA jB (fun K hK=>?_);refine skip_ (w1:=?_) (by rfl) rfl ?_ ?_;rotate_left
    ·
     go_simp
     rfl
    refine hK.out _ _ ?_;clear hK K;refine done_ jA ?_;have hne : ∀ q,q<w11.heap.size→q≠bp:=fun q hq e9=>Nat.lt_irrefl _ (Nat.lt_of_lt_of_le hq (e9 ▸ hbp));have l0_ : g0≠bp:=hne g0 (yi H0_11.out);have l2_ : g2≠bp:=hne g2 (yi H2_11.out);have HBP : Aside0 (((wt.setCell ⟨bp,0,none⟩ (.int .i64 n1)).setCell ⟨bp,1,none⟩ (.slice Aq X2.length cq)).heap[bp]? = some (.cells #[.int .i64 n1,.slice Aq X2.length cq] 60 (0,0))):=⟨blk_set (blk_set hbox 0 _) 1 _⟩;have hRt:=yf hRb hbox jB;have HF2 : Aside0 (Kd.F k28 ((wt.setCell ⟨bp,0,none⟩ (.int .i64 n1)).setCell ⟨bp,1,none⟩ (.slice Aq X2.length cq)) (fun k_=>w11.heap.size≤k_∧k_≠bp) Aq X2.length X2):=⟨Kd.F_far (p:=⟨bp,1,none⟩) (Kd.F_far (p:=⟨bp,0,none⟩) (Kd.F_mono (Kd.R_F (Kd.R_bound hRt)) (ok':=fun k_=>w11.heap.size≤k_∧k_≠bp) (fun _ hk=>⟨hk.2.1,hk.1.2⟩)) (fun _ hk=>hk.2) _) (fun _ hk=>hk.2) _⟩;have HXC2:=zh (yh hRb).2.1;have hwb : w.heap.size≤bp:=Nat.le_trans HB11.out.size hbp;have HB12 : Aside0 (Below w.heap.size w ((wt.setCell ⟨bp,0,none⟩ (.int .i64 n1)).setCell ⟨bp,1,none⟩ (.slice Aq X2.length cq))):=⟨zd (zd (zC HB11.out hbt) hwb) hwb⟩;have H0_12 : Aside0 (((wt.setCell ⟨bp,0,none⟩ (.int .i64 n1)).setCell ⟨bp,1,none⟩ (.slice Aq X2.length cq)).heap[g0]? = some (.cells #[.slice (some ⟨g,0,none⟩) T1.length cg,.int .i64 n1] 25 (0,0))):=⟨(Below.heap_setCell _ ⟨bp,_,none⟩ _ g0 l0_).trans ((Below.heap_setCell _ ⟨bp,_,none⟩ _ g0 l0_).trans (zD H0_11.out hbt))⟩;have H2_12 : Aside0 (((wt.setCell ⟨bp,0,none⟩ (.int .i64 n1)).setCell ⟨bp,1,none⟩ (.slice Aq X2.length cq)).heap[g2]? = some (.cells #[.slice none 0 0,.int .i64 0] 25 (0,0))):=⟨(Below.heap_setCell _ ⟨bp,_,none⟩ _ g2 l2_).trans ((Below.heap_setCell _ ⟨bp,_,none⟩ _ g2 l2_).trans (zD H2_11.out hbt))⟩;have HN12 : Aside0 (Kd.N k60 60 ((wt.setCell ⟨bp,0,none⟩ (.int .i64 n1)).setCell ⟨bp,1,none⟩ (.slice Aq X2.length cq)) w.heap.size (fun k_=>w3.heap.size≤k_) (.slice (some ⟨g,0,none⟩) T1.length cg) ((T1.set pl.toNat (⟨(rd_T60 T1 pl).f0,X⟩ : S60)).set pl.toNat (⟨(rd_T60 T1 pl).f0,X1⟩ : S60))):=⟨Kd.N_mono (Kd.N_far (p:=⟨bp,1,none⟩) (Kd.N_far (p:=⟨bp,0,none⟩) (Kd.N_below (Kd.N_bound HN11.out) hbt) (fun k_ hk=>hne k_ hk.2) _) (fun k_ hk=>hne k_ hk.2) _) (fun _ hk=>hk.1)⟩;have L712 : Aside0 (w7.heap.size≤((wt.setCell ⟨bp,0,none⟩ (.int .i64 n1)).setCell ⟨bp,1,none⟩ (.slice Aq X2.length cq)).heap.size):=⟨by simp;exact Nat.le_trans L711.out hbt.size⟩;have BP0:=zh (Ne.symm l0_);have BP2:=zh l2_;have BP3 : Aside0 (w3.heap.size≤bp):=⟨Nat.le_trans L37.out (Nat.le_trans L711.out hbp)⟩;have L311 : Aside0 (w3.heap.size≤w11.heap.size):=⟨Nat.le_trans L37.out L711.out⟩;clear hne l0_ l2_ hwb hRt hRb hbt hbox hbp q0 q1 f0 f1 hcut2 HB11 H0_11 H2_11 HN11 HC2 L711;generalize ((wt.setCell ⟨bp,0,none⟩ (.int .i64 n1)).setCell ⟨bp,1,none⟩ (.slice Aq X2.length cq))=w12 at *;have k0:=zz H0_12.out 0;have k1:=zz H0_12.out 1;have f1:=zA H0_12.out 1;have hw18:=HT3.out
    go_wp2_with fail
    clear k0 k1 f1 hw18;have HB13 : Aside0 (Below w.heap.size w (w12.setCell ⟨g0,1,none⟩ (.int .i64 (n1+1)))):=⟨zd HB12.out GB0.out⟩;have H0_13 : Aside0 ((w12.setCell ⟨g0,1,none⟩ (.int .i64 (n1+1))).heap[g0]? = some (.cells #[.slice (some ⟨g,0,none⟩) T1.length cg,.int .i64 (n1+1)] 25 (0,0))):=⟨blk_set H0_12.out 1 _⟩;have H2_13 : Aside0 ((w12.setCell ⟨g0,1,none⟩ (.int .i64 (n1+1))).heap[g2]? = some (.cells #[.slice none 0 0,.int .i64 0] 25 (0,0))):=⟨(Below.heap_setCell _ ⟨g0,_,none⟩ _ g2 (Ne.symm N02.out)).trans H2_12.out⟩;have HP_13 : Aside0 ((w12.setCell ⟨g0,1,none⟩ (.int .i64 (n1+1))).heap[bp]? = some (.cells #[.int .i64 n1,.slice Aq X2.length cq] 60 (0,0))):=⟨(Below.heap_setCell _ ⟨g0,_,none⟩ _ bp BP0.out).trans HBP.out⟩;have HN13 : Aside0 (Kd.N k60 60 (w12.setCell ⟨g0,1,none⟩ (.int .i64 (n1+1))) w.heap.size (fun k_=>w3.heap.size≤k_) (.slice (some ⟨g,0,none⟩) T1.length cg) ((T1.set pl.toNat (⟨(rd_T60 T1 pl).f0,X⟩ : S60)).set pl.toNat (⟨(rd_T60 T1 pl).f0,X1⟩ : S60))):=⟨Kd.N_far (p:=⟨g0,_,none⟩) HN12.out (fun _ hk e9=>by rw [e9] at hk;exact Nat.lt_irrefl _ (Nat.lt_of_lt_of_le L0.out hk)) _⟩;have HF13 : Aside0 (Kd.F k28 (w12.setCell ⟨g0,1,none⟩ (.int .i64 (n1+1))) (fun k_=>w11.heap.size≤k_∧k_≠bp) Aq X2.length X2):=⟨Kd.F_far (p:=⟨g0,_,none⟩) HF2.out (fun k_ hk e9=>by have h9:=hk.1;rw [e9] at h9;exact Nat.lt_irrefl _ (Nat.lt_of_lt_of_le L0.out (Nat.le_trans L311.out h9))) _⟩;have L313 : Aside0 (w3.heap.size≤(w12.setCell ⟨g0,1,none⟩ (.int .i64 (n1+1))).heap.size):=⟨by simp;exact Nat.le_trans L37.out L712.out⟩;clear HB12 H0_12 H2_12 HBP HN12 HF2 L712;generalize (w12.setCell ⟨g0,1,none⟩ (.int .i64 (n1+1)))=w13 at *;obtain ⟨Y,hY⟩ : ∃ Y,Y=(T1.set pl.toNat (⟨(rd_T60 T1 pl).f0,X⟩ : S60)).set pl.toNat (⟨(rd_T60 T1 pl).f0,X1⟩ : S60):=⟨_,rfl⟩;have hYl : Y.length=T1.length:=by rw [hY,List.length_set,List.length_set]
    have HN9:=zh (Kd.N_drew HN13.out);rw [← hY] at HN9;have HYL2:=zh hYl;have HF9:=zh (Kd.F_bound (Kd.F_drew HF13.out));have HB9:=zh (zc HB13.out);have H0_9:=zh (zf H0_13.out);have H2_9:=zh (zf H2_13.out);have HP_9:=zh (zf HP_13.out);have L39 : Aside0 (w3.heap.size≤w13.drew.heap.size):=L313;obtain ⟨Kn,rfl⟩ : ∃ Kn : Nat,pl=(Kn : Int):=⟨pl.toNat,(Int.toNat_of_nonneg hK0).symm⟩;have hKn : Kn<T1.length:=Int.ofNat_lt.1 HT1.out;have hKw:=F8.w_next Kn (Nat.le_trans (Nat.le_of_lt hKn) (Nat.le_trans HT2.out jB));have hKw2 : IntKind.i64.wrap ((Kn : Int)+1)=((Kn+1 : Nat) : Int):=(zG _).trans hKw;obtain ⟨j2,hj2⟩ : ∃ j : Nat,j=Kn+1:=⟨_,rfl⟩;have hjw2 : IntKind.i64.wrap ((Kn : Int)+1)=(j2 : Int):=by rw [hj2];exact hKw2
    have hjl2 : j2≤T1.length:=by rw [hj2];exact hKn
    have hi6 : (0 : Int)≤(j2 : Int):=Int.natCast_nonneg _;have hi7 : (j2 : Int)≤(T1.length : Int):=Int.ofNat_le.2 hjl2;obtain ⟨i0_,hi0_,_,hsz_,_⟩:=info_parts info60;have hcgl : T1.length≤cg:=(Kd.N_reads' HN9.out).2.1;have hcut1:=cut_to (P:=Try.prog) 23 60 .i64 Try.underlying23 hi0_ (some ⟨g,0,none⟩) T1.length cg (j2 : Int) hi6 hi7 hcgl;have hcut2:=cut_from (P:=Try.prog) 23 60 .i64 Try.underlying23 hi0_ 2 hsz_ (some ⟨g,0,none⟩) T1.length cg (j2 : Int) hi6 hi7;rw [Int.toNat_natCast] at hcut1 hcut2;have hFY:=Kd.F_bound (Kd.N_F HN9.out);rw [← hYl] at hFY;have hC1:=Kd.F_imp hFY (fun _ hC=>Kd.C_take (m:=j2) hC jA5);have hC2:=Kd.F_imp hFY (fun _ hC=>Kd.C_drop (c:=cg) (m:=j2) hC jA5 (by rw [hYl];exact hcgl));rw [zx,Nat.min_eq_left jA5] at hC1;rw [zw,hYl] at hC2;obtain ⟨A2,hA2⟩ : ∃ A2,A2=(if cg=j2 then (some (⟨g,0,none⟩ : Addr)) else (some (⟨g,0,none⟩ : Addr)).map (·.add (j2*2))):=⟨_,rfl⟩;rw [← hA2] at hcut2;replace hC2 : Kd.F k60 w13.drew (fun k_=>w3.heap.size≤k_∧k_<w13.drew.heap.size) A2 (T1.length - j2) (Y.drop j2):=by rw [hA2];exact hC2
    have HJL2:=zh hjl2;have HC1:=zh hC1;have HC2:=zh hC2
    have HYR : Aside0 (Y.take (Kn+1) ++ [(⟨n1,X2⟩ : S60)]++Y.drop (Kn+1)=r1):=⟨by
     have e1 : X.take (X.length / 2)=X1:=by rw [HX1.out,List.nil_append,HHF.out]
     have e2 : X.drop (X.length / 2)=X2:=by rw [HX2.out,List.nil_append,HHF.out]
     have h9:=HR1.out;rw [e1,e2,← hY,Int.toNat_natCast] at h9
     exact h9⟩
    have HJ2:=zh hj2;clear hC1 hC2 hA2 hi0_ hsz_ hFY hcgl hY hYl hKw hKw2 hj2 hjl2 HN13 HR1 hKn;refine start_ (n:=18) (S:=fun w' => w'.cell? ⟨g0,0,none⟩=some (.slice (some ⟨g,0,none⟩) T1.length cg)∧w'.cell? ⟨bp,0,none⟩=some (.int .i64 n1)∧w'.cell? ⟨bp,1,none⟩=some (.slice Aq X2.length cq)) (ds:=[17]) (bm_ 0 18) jA rfl rfl ⟨(zz H0_9.out 0).trans rfl,(zz HP_9.out 0).trans rfl,(zz HP_9.out 1).trans rfl⟩ (fun hHeld=>?_);generalize w13.drew=w9 at HB9 H0_9 H2_9 HP_9 L39 HC1 HC2 HN9 HF9 hHeld ⊢;clear HB13 H0_13 H2_13 HP_13 HF13 L313;refine pure_ (i:=1) (N:=some 113) (v:=?_) (a':=?_) #[false,true,false,false,false,false,false,false,false,false,false,false,false,false,false,false,false,false] rfl rfl jA (fun _ _ _ h=>h) (Or.inl ⟨by rfl,?_⟩) ?_ ?_;rotate_left;exact jb;rotate_left;exact jc
    refine pure_ (i:=3) (N:=some 115) (v:=?_) (a':=?_) #[false,true,false,true,false,false,false,false,false,false,false,false,false,false,false,false,false,false] rfl rfl jA (fun _ _ _ h=>h) (Or.inl ⟨by rfl,?_⟩) ?_ ?_;rotate_left;exact jb;rotate_left;exact jc
    refine pure_ (i:=4) (N:=some 116) (v:=?_) (a':=?_) #[false,true,false,true,true,false,false,false,false,false,false,false,false,false,false,false,false,false] rfl rfl jA (fun _ _ _ h=>h) (Or.inl ⟨by rfl,?_⟩) ?_ ?_;rotate_left;exact jb;rotate_left;exact jc
    refine pure_ (i:=10) (N:=some 122) (v:=?_) (a':=?_) #[false,true,false,true,true,false,false,false,false,false,true,false,false,false,false,false,false,false] rfl rfl jA (fun _ _ _ h=>h) (Or.inl ⟨by rfl,?_⟩) ?_ ?_;rotate_left;exact jb;rotate_left;exact jc
    refine pure_ (i:=12) (N:=some 124) (v:=?_) (a':=?_) #[false,true,false,true,true,false,false,false,false,false,true,false,true,false,false,false,false,false] rfl rfl jA (fun _ _ _ h=>h) (Or.inl ⟨by rfl,?_⟩) ?_ ?_;rotate_left;exact jb;rotate_left;exact jc
    refine pure_ (i:=13) (N:=some 125) (v:=?_) (a':=?_) #[false,true,false,true,true,false,false,false,false,false,true,false,true,true,false,false,false,false] rfl rfl jA (fun _ _ _ h=>h) (Or.inl ⟨by rfl,?_⟩) ?_ ?_;rotate_left;exact jb;rotate_left;exact jc
    refine take_ (i:=2) (N:=some 114) (v:=?_) (a':=?_) #[false,true,true,true,true,false,false,false,false,false,true,false,true,true,false,false,false,false] rfl rfl jA (fun _ _ _ h=>h) (Or.inl ⟨by rfl,?_⟩) hHeld ?_ ?_;rotate_left
    ·
     rintro w' ⟨s0,s1,s2⟩
     go_simp
     with_reducible rfl
    rotate_left
    exact jc
    refine pure_ (i:=5) (N:=some 117) (v:=?_) (a':=?_) #[false,true,true,true,true,true,false,false,false,false,true,false,true,true,false,false,false,false] rfl rfl jA (fun _ _ _ h=>h) (Or.inl ⟨by rfl,?_⟩) ?_ ?_;rotate_left;exact jb;rotate_left;exact jc
    refine take_ (i:=7) (N:=some 119) (v:=?_) (a':=?_) #[false,true,true,true,true,true,false,true,false,false,true,false,true,true,false,false,false,false] rfl rfl jA (fun _ _ _ h=>h) (Or.inl ⟨by rfl,?_⟩) hHeld ?_ ?_;rotate_left
    ·
     rintro w' ⟨s0,s1,s2⟩
     go_simp
     with_reducible rfl
    rotate_left
    exact jc
    refine take_ (i:=11) (N:=some 123) (v:=?_) (a':=?_) #[false,true,true,true,true,true,false,true,false,false,true,true,true,true,false,false,false,false] rfl rfl jA (fun _ _ _ h=>h) (Or.inl ⟨by rfl,?_⟩) hHeld ?_ ?_;rotate_left
    ·
     rintro w' ⟨s0,s1,s2⟩
     go_simp
     with_reducible rfl
    rotate_left
    exact jc
    refine pure_ (i:=14) (N:=some 126) (v:=?_) (a':=?_) #[false,true,true,true,true,true,false,true,false,false,true,true,true,true,true,false,false,false] rfl rfl jA (fun _ _ _ h=>h) (Or.inl ⟨by rfl,?_⟩) ?_ ?_;rotate_left;exact jb;rotate_left;exact jc
    refine join_ (σ:=Value×Value×(Option Addr×Nat)) 4 #[true,true,true,true,true,true,true,true,true,false,true,true,true,true,true,false,false,false] (fun s => [(112,s.1),(118,s.2.1),(120,.slice s.2.2.1 1 s.2.2.2)]) (fun s w' => Kd.N k60 60 w' w9.heap.size (fun k_=>w3.heap.size≤k_) s.2.1 ([]++Y.take j2)∧Kd.F k60 w' (fun k_=>w3.heap.size≤k_∧some k_≠s.2.1.ownBlock) s.2.2.1 1 [(⟨n1,X2⟩ : S60)]∧Below w9.heap.size w9 w') ?_ ?_;rotate_left
    ·
     intro hCont
     refine two_ (i:=0) (j:=8) (Ni:=some 112) (Nj:=some 120) #[true,true,true,true,true,true,false,true,false,false,true,true,true,true,true,false,false,false] #[false,true,true,true,true,true,false,true,true,false,true,true,true,true,true,false,false,false] rfl rfl rfl rfl jA jB jB (fun K hK=>?_) (fun K hK=>?_)
     ·
      skip
      refine Kd.N_lit_step k60 _ 60 ?hg (N':=112) ?hd (xs:=([] : List (S60))) (inner:=[]) (ok:=(fun k_=>w3.heap.size≤k_)) (okp:=(fun k_=>w3.heap.size≤k_)) ?hr ?hp (fun _ hk=>hk) (Nat.le_trans L39.out (Below.refl w9.heap.size w9).size) (Below.refl _ _) (ye _) (by simp) ?_;(case hd=>rfl);(case hg=>rfl);(case hr=>go_simp <;> rfl);(case hp=>exact (Reps.none _ _));intro va wa hNa hba_ hga_ hna_;clear hga_ hna_;have hb0:=zC (Below.refl w9.heap.size w9) hba_;refine hK.out _ _ ⟨(zz (zD H0_9.out hb0) 0).trans rfl,(zz (zD HP_9.out hb0) 0).trans rfl,(zz (zD HP_9.out hb0) 1).trans rfl⟩ (fun hHeld=>?_);clear hK K;refine norm_ (a':=?_) ?_ ?_;rotate_left
      ·
       show Act.put _ (some 112) _=_
       simp only [Act.put,zi,zj,zk,zG,zH]
       rfl
      refine two_ (i:=6) (j:=8) (Ni:=some 118) (Nj:=some 120) #[true,true,true,true,true,true,true,true,false,false,true,true,true,true,true,false,false,false] #[true,true,true,true,true,true,false,true,true,false,true,true,true,true,true,false,false,false] rfl rfl rfl rfl jA jB jB (fun K hK=>?_) (fun K hK=>?_)
      ·
       skip
       refine Kd.N_append_rows_step k60 (w0:=w9) w9.heap.size (by rfl) (.tmp 112) (.tmp 117) 23 60 (.agg #[(.int .i64 0),(.slice none 0 0)]) 32 rfl Try.underlying23 info60 rfl jB jB va ([] : List (S60)) (Y.take j2) (some ⟨g,0,none⟩) j2 cg (fun k_=>w3.heap.size≤k_) (fun k_=>w3.heap.size≤k_∧k_<w9.heap.size) (by rfl) (by rfl) hNa (Kd.F_below HC1.out hb0) (fun k_ hk=>⟨hk.1,fun e9=>Nat.lt_irrefl _ (Nat.lt_of_lt_of_le hk.2 (Nat.le_trans (ye _) (Kd.N_base hNa k_ e9.symm)))⟩) (fun _ hk=>Nat.le_trans L39.out (Nat.le_trans hb0.size hk)) hb0 hb0.size jAr ?_;intro vb wb hNb hb6 hg6 hat6;refine hK.out _ _ ⟨(zz (zD H0_9.out hb6) 0).trans rfl,(zz (zD HP_9.out hb6) 0).trans rfl,(zz (zD HP_9.out hb6) 1).trans rfl⟩ (fun hHeld=>?_);clear hK K;refine norm_ (a':=?_) ?_ ?_;rotate_left
       ·
        show Act.put _ (some 118) _=_
        simp only [Act.put,zi,zj,zk,zG,zH]
        rfl
       refine one_ (i:=8) (N:=some 120) #[true,true,true,true,true,true,true,true,true,false,true,true,true,true,true,false,false,false] rfl rfl jA jB (fun K hK=>?_);refine Kd.N_lit_step k60 _ 60 ?hg (N':=120) ?hd (xs:=[(⟨n1,X2⟩ : S60)]) (inner:=[.int .i64 n1,.slice Aq X2.length cq]) (ok:=(fun k_=>w3.heap.size≤k_∧some k_≠vb.ownBlock)) (okp:=(fun k_=>w3.heap.size≤k_∧k_<w9.heap.size)) ?hr ?hp (fun k_ hk=>⟨hk.1,fun e9=>Nat.lt_irrefl _ (Nat.lt_of_lt_of_le hk.2 (Kd.N_base hNb k_ e9.symm))⟩) ⟨(Nat.le_trans L39.out hb6.size),fun e9=>Nat.lt_irrefl _ (Kd.N_lt hNb _ e9.symm)⟩ (Below.refl _ _) (ye _) (by simp) ?_;(case hd=>rfl);(case hg=>rfl);(case hr=>go_simp <;> rfl);(case hp=>exact (Go.Proofs.Ytgifonogfgpjdaa.Row.reps_one (k60_mkF _ _ (⟨n1,X2⟩ : S60) HXC2.out (Kd.F_mono (Kd.F_below HF9.out hb6) (fun _ hk=>⟨Nat.le_trans L311.out hk.1.1,hk.2⟩))) rfl));intro vl wl hNl hbl_ hga_ hna_;clear hga_ hna_;obtain ⟨Ax,cx,hvl⟩:=Kd.N_slice hNl;replace hvl : vl = .slice Ax 1 cx:=hvl;subst hvl;have hb8:=zC hb6 hbl_;refine hK.out _ _ ⟨(zz (zD H0_9.out hb8) 0).trans rfl,(zz (zD HP_9.out hb8) 0).trans rfl,(zz (zD HP_9.out hb8) 1).trans rfl⟩ (fun hHeld=>?_);clear hK K;refine norm_ (a':=?_) ?_ ?_;rotate_left
       ·
        show Act.put _ (some 120) _=_
        simp only [Act.put,zi,zj,zk,zG,zH]
        rfl
       exact norm_ jAG (hCont (va,vb,(Ax,cx)) _ ⟨Kd.N_below hNb hbl_,Kd.N_F hNl,hb8⟩)
      skip
      refine Kd.N_lit_step k60 _ 60 ?hg (N':=120) ?hd (xs:=[(⟨n1,X2⟩ : S60)]) (inner:=[.int .i64 n1,.slice Aq X2.length cq]) (ok:=(fun k_=>w3.heap.size≤k_∧some k_≠va.ownBlock)) (okp:=(fun k_=>w3.heap.size≤k_∧k_<w9.heap.size)) ?hr ?hp (fun k_ hk=>⟨hk.1,fun e9=>Nat.lt_irrefl _ (Nat.lt_of_lt_of_le hk.2 (Kd.N_base hNa k_ e9.symm))⟩) ⟨(Nat.le_trans L39.out hb0.size),fun e9=>Nat.lt_irrefl _ (Kd.N_lt hNa _ e9.symm)⟩ (Below.refl _ _) (ye _) (by simp) ?_;(case hd=>rfl);(case hg=>rfl);(case hr=>go_simp <;> rfl);(case hp=>exact (Go.Proofs.Ytgifonogfgpjdaa.Row.reps_one (k60_mkF _ _ (⟨n1,X2⟩ : S60) HXC2.out (Kd.F_mono (Kd.F_below HF9.out hb0) (fun _ hk=>⟨Nat.le_trans L311.out hk.1.1,hk.2⟩))) rfl));intro vl wl hNl hbl_ hga_ hna_;clear hga_ hna_;obtain ⟨Ax,cx,hvl⟩:=Kd.N_slice hNl;replace hvl : vl = .slice Ax 1 cx:=hvl;subst hvl;have hb8:=zC hb0 hbl_;refine hK.out _ _ ⟨(zz (zD H0_9.out hb8) 0).trans rfl,(zz (zD HP_9.out hb8) 0).trans rfl,(zz (zD HP_9.out hb8) 1).trans rfl⟩ (fun hHeld=>?_);clear hK K;refine norm_ (a':=?_) ?_ ?_;rotate_left
      ·
       show Act.put _ (some 120) _=_
       simp only [Act.put,zi,zj,zk,zG,zH]
       rfl
      refine one_ (i:=6) (N:=some 118) #[true,true,true,true,true,true,true,true,true,false,true,true,true,true,true,false,false,false] rfl rfl jA jB (fun K hK=>?_);refine Kd.N_append_rows_step k60 (w0:=w9) w9.heap.size (by rfl) (.tmp 112) (.tmp 117) 23 60 (.agg #[(.int .i64 0),(.slice none 0 0)]) 32 rfl Try.underlying23 info60 rfl jB jB va ([] : List (S60)) (Y.take j2) (some ⟨g,0,none⟩) j2 cg (fun k_=>w3.heap.size≤k_) (fun k_=>w3.heap.size≤k_∧k_<w9.heap.size) (by rfl) (by rfl) (Kd.N_below hNa hbl_) (Kd.F_below HC1.out hb8) (fun k_ hk=>⟨hk.1,fun e9=>Nat.lt_irrefl _ (Nat.lt_of_lt_of_le hk.2 (Nat.le_trans (ye _) (Kd.N_base hNa k_ e9.symm)))⟩) (fun _ hk=>Nat.le_trans L39.out (Nat.le_trans hb8.size hk)) hb8 hb8.size jAr ?_;intro vb wb hNb hb6 hg6 hat6;refine hK.out _ _ ⟨(zz (zD H0_9.out hb6) 0).trans rfl,(zz (zD HP_9.out hb6) 0).trans rfl,(zz (zD HP_9.out hb6) 1).trans rfl⟩ (fun hHeld=>?_);clear hK K;refine norm_ (a':=?_) ?_ ?_;rotate_left
      ·
       show Act.put _ (some 118) _=_
       simp only [Act.put,zi,zj,zk,zG,zH]
       rfl
      exact norm_ jAG (hCont (va,vb,(Ax,cx)) _ ⟨hNb,Kd.F_after (Kd.N_F hNl) hg6 hat6,hb6⟩)
     skip
     refine Kd.N_lit_step k60 _ 60 ?hg (N':=120) ?hd (xs:=[(⟨n1,X2⟩ : S60)]) (inner:=[.int .i64 n1,.slice Aq X2.length cq]) (ok:=(fun k_=>w3.heap.size≤k_)) (okp:=(fun k_=>w3.heap.size≤k_∧k_<w9.heap.size)) ?hr ?hp (fun _ hk=>hk.1) (Nat.le_trans L39.out (Below.refl w9.heap.size w9).size) (Below.refl _ _) (ye _) (by simp) ?_;(case hd=>rfl);(case hg=>rfl);(case hr=>go_simp <;> rfl);(case hp=>exact (Go.Proofs.Ytgifonogfgpjdaa.Row.reps_one (k60_mkF _ _ (⟨n1,X2⟩ : S60) HXC2.out (Kd.F_mono (Kd.F_below HF9.out (Below.refl w9.heap.size w9)) (fun _ hk=>⟨Nat.le_trans L311.out hk.1.1,hk.2⟩))) rfl));intro vl wl hNl hbl_ hga_ hna_;clear hga_ hna_;obtain ⟨Ax,cx,hvl⟩:=Kd.N_slice hNl;replace hvl : vl = .slice Ax 1 cx:=hvl;subst hvl;have hb8:=zC (Below.refl w9.heap.size w9) hbl_;refine hK.out _ _ ⟨(zz (zD H0_9.out hb8) 0).trans rfl,(zz (zD HP_9.out hb8) 0).trans rfl,(zz (zD HP_9.out hb8) 1).trans rfl⟩ (fun hHeld=>?_);clear hK K;refine norm_ (a':=?_) ?_ ?_;rotate_left
     ·
      show Act.put _ (some 120) _=_
      simp only [Act.put,zi,zj,zk,zG,zH]
      rfl
     refine one_ (i:=0) (N:=some 112) #[true,true,true,true,true,true,false,true,true,false,true,true,true,true,true,false,false,false] rfl rfl jA jB (fun K hK=>?_);refine Kd.N_lit_step k60 _ 60 ?hg (N':=112) ?hd (xs:=([] : List (S60))) (inner:=[]) (ok:=(fun k_=>w3.heap.size≤k_)) (okp:=(fun k_=>w3.heap.size≤k_)) ?hr ?hp (fun _ hk=>hk) (Nat.le_trans L39.out hb8.size) (Below.refl _ _) (ye _) (by simp) ?_;(case hd=>rfl);(case hg=>rfl);(case hr=>go_simp <;> rfl);(case hp=>exact (Reps.none _ _));intro va wa hNa hba_ hga_ hna_;clear hga_ hna_;have hb0:=zC hb8 hba_;refine hK.out _ _ ⟨(zz (zD H0_9.out hb0) 0).trans rfl,(zz (zD HP_9.out hb0) 0).trans rfl,(zz (zD HP_9.out hb0) 1).trans rfl⟩ (fun hHeld=>?_);clear hK K;refine norm_ (a':=?_) ?_ ?_;rotate_left
     ·
      show Act.put _ (some 112) _=_
      simp only [Act.put,zi,zj,zk,zG,zH]
      rfl
     refine one_ (i:=6) (N:=some 118) #[true,true,true,true,true,true,true,true,true,false,true,true,true,true,true,false,false,false] rfl rfl jA jB (fun K hK=>?_);refine Kd.N_append_rows_step k60 (w0:=w9) w9.heap.size (by rfl) (.tmp 112) (.tmp 117) 23 60 (.agg #[(.int .i64 0),(.slice none 0 0)]) 32 rfl Try.underlying23 info60 rfl jB jB va ([] : List (S60)) (Y.take j2) (some ⟨g,0,none⟩) j2 cg (fun k_=>w3.heap.size≤k_) (fun k_=>w3.heap.size≤k_∧k_<w9.heap.size) (by rfl) (by rfl) (Kd.N_lower hNa hb8.size) (Kd.F_below HC1.out hb0) (fun k_ hk=>⟨hk.1,fun e9=>Nat.lt_irrefl _ (Nat.lt_of_lt_of_le hk.2 (Nat.le_trans hb8.size (Kd.N_base hNa k_ e9.symm)))⟩) (fun _ hk=>Nat.le_trans L39.out (Nat.le_trans hb0.size hk)) hb0 hb0.size jAr ?_;intro vb wb hNb hb6 hg6 hat6;refine hK.out _ _ ⟨(zz (zD H0_9.out hb6) 0).trans rfl,(zz (zD HP_9.out hb6) 0).trans rfl,(zz (zD HP_9.out hb6) 1).trans rfl⟩ (fun hHeld=>?_);clear hK K;refine norm_ (a':=?_) ?_ ?_;rotate_left
     ·
      show Act.put _ (some 118) _=_
      simp only [Act.put,zi,zj,zk,zG,zH]
      rfl
     exact norm_ jAG (hCont (va,vb,(Ax,cx)) _ ⟨hNb,Kd.F_after (Kd.F_elder' (Kd.N_F hNl) (Kd.N_base hNa) hba_) hg6 hat6,hb6⟩)
    rintro ⟨va,vb,Ax,cx⟩ wt ⟨hNb,hFl_,hbt⟩;have hHeld : wt.cell? ⟨g0,0,none⟩=some (.slice (some ⟨g,0,none⟩) T1.length cg)∧wt.cell? ⟨bp,0,none⟩=some (.int .i64 n1)∧wt.cell? ⟨bp,1,none⟩=some (.slice Aq X2.length cq):=⟨(zz (zD H0_9.out hbt) 0).trans rfl,(zz (zD HP_9.out hbt) 0).trans rfl,(zz (zD HP_9.out hbt) 1).trans rfl⟩;refine norm_ (a':=?_) ?_ ?_;rotate_left
    ·
     simp only [putAll,Act.put,zi,zj,zk]
     rfl
    refine one_ (i:=9) (N:=some 121) (bm_ 15 18) rfl rfl jA jB (fun K hK=>?_);refine Kd.N_append_rows_step k60 (w0:=w9) w9.heap.size (by rfl) (.tmp 118) (.tmp 120) 23 60 (.agg #[(.int .i64 0),(.slice none 0 0)]) 32 rfl Try.underlying23 info60 rfl jB jB vb ([]++Y.take j2) [(⟨n1,X2⟩ : S60)] Ax 1 cx (fun k_=>w3.heap.size≤k_) (fun k_=>w3.heap.size≤k_∧some k_≠vb.ownBlock) (by rfl) (by rfl) hNb hFl_ (fun _ hk=>hk) (fun _ hk=>Nat.le_trans L39.out (Nat.le_trans hbt.size hk)) hbt hbt.size jAr ?_;intro vd wd hNd hbd hg_ hat_;clear hg_ hat_;refine hK.out _ _ ⟨(zz (zD H0_9.out hbd) 0).trans rfl,(zz (zD HP_9.out hbd) 0).trans rfl,(zz (zD HP_9.out hbd) 1).trans rfl⟩ (fun hHeld=>?_);clear hK K;refine norm_ (a':=?_) ?_ ?_;rotate_left
    ·
     show Act.put _ (some 121) _=_
     simp only [Act.put,zi,zj,zk,zG,zH]
     rfl
    refine one_ (i:=15) (N:=some 127) (bm_ 16 18) rfl rfl jA jB (fun K hK=>?_);refine Kd.N_append_rows_step k60 (w0:=w9) w9.heap.size (by rfl) (.tmp 121) (.tmp 126) 23 60 (.agg #[(.int .i64 0),(.slice none 0 0)]) 32 rfl Try.underlying23 info60 rfl jB jB vd (([]++Y.take j2) ++ [(⟨n1,X2⟩ : S60)]) (Y.drop j2) A2 (T1.length - j2) (cg - j2) (fun k_=>w3.heap.size≤k_) (fun k_=>w3.heap.size≤k_∧k_<w9.heap.size) (by rfl) (by rfl) hNd (Kd.F_below HC2.out hbd) (fun k_ hk=>⟨hk.1,fun e9=>Nat.lt_irrefl _ (Nat.lt_of_lt_of_le hk.2 (Kd.N_base hNd k_ e9.symm))⟩) (fun _ hk=>Nat.le_trans L39.out (Nat.le_trans hbd.size hk)) hbd hbd.size jAr ?_;intro ve we hNe hbe hg_ hat_;clear hg_ hat_;obtain ⟨Z,hZ⟩ : ∃ Z : List (S60),Z=(([]++Y.take j2) ++ [(⟨n1,X2⟩ : S60)])++Y.drop j2:=⟨_,rfl⟩;rw [← hZ] at hNe;have HZ:=zh hZ;clear hZ;obtain ⟨Ac2,cc2,rfl⟩:=Kd.N_slice hNe;have hce:=(zz (zD H0_9.out hbe) 0).trans (show _=some (.slice (some ⟨g,0,none⟩) T1.length cg) from rfl);have f9:=zA (zD H0_9.out hbe) 0;refine hK.out _ _ ⟨(zz (zD H0_9.out hbe) 0).trans rfl,(zz (zD HP_9.out hbe) 0).trans rfl,(zz (zD HP_9.out hbe) 1).trans rfl⟩ (fun hHeld=>?_);clear hK K;refine norm_ (a':=?_) ?_ ?_;rotate_left
    ·
     show Act.put _ (some 127) _=_
     simp only [Act.put,zi,zj,zk,zG,zH]
     rfl
    refine pure_ (i:=16) (N:=some 128) (v:=?_) (a':=?_) (bm_ 17 18) rfl rfl jA (fun _ _ _ h=>h) (Or.inl ⟨by rfl,?_⟩) ?_ ?_;rotate_left;exact jb;rotate_left;exact jc
    refine last_ (i:=17) (N:=none) (bm_ 18 18) rfl rfl jA jB (fun K hK=>?_);refine skip_ (w1:=?_) (by rfl) rfl ?_ ?_;rotate_left
    ·
     go_simp
     rfl
    refine hK.out _ _ ?_;clear hK K;refine done_ jA ?_;have hZe : Y.take (Kn+1) ++ [(⟨n1,X2⟩ : S60)]++Y.drop (Kn+1)=Z:=by rw [HZ.out,List.nil_append,HJ2.out]
    obtain rfl : Z=r1:=hZe.symm.trans HYR.out;have HB14 : Aside0 (Below w.heap.size w (we.setCell ⟨g0,0,none⟩ (.slice Ac2 Z.length cc2))):=⟨zd (zC HB9.out hbe) GB0.out⟩;have H0_14 : Aside0 ((we.setCell ⟨g0,0,none⟩ (.slice Ac2 Z.length cc2)).heap[g0]? = some (.cells #[.slice Ac2 Z.length cc2,.int .i64 (n1+1)] 25 (0,0))):=⟨blk_set (zD H0_9.out hbe) 0 _⟩;have H2_14 : Aside0 ((we.setCell ⟨g0,0,none⟩ (.slice Ac2 Z.length cc2)).heap[g2]? = some (.cells #[.slice none 0 0,.int .i64 0] 25 (0,0))):=⟨(Below.heap_setCell _ ⟨g0,_,none⟩ _ g2 (Ne.symm N02.out)).trans (zD H2_9.out hbe)⟩;have HP_14 : Aside0 ((we.setCell ⟨g0,0,none⟩ (.slice Ac2 Z.length cc2)).heap[bp]? = some (.cells #[.int .i64 n1,.slice Aq X2.length cq] 60 (0,0))):=⟨(Below.heap_setCell _ ⟨g0,_,none⟩ _ bp BP0.out).trans (zD HP_9.out hbe)⟩;have HV14 : Aside0 (Kd.V k60 60 (we.setCell ⟨g0,0,none⟩ (.slice Ac2 Z.length cc2)) w.heap.size (fun k_=>w3.heap.size≤k_) (.slice Ac2 Z.length cc2) Z):=⟨Kd.V_far (p:=⟨g0,0,none⟩) (Kd.N_V hNe) (fun _ hk e9=>by rw [e9] at hk;exact Nat.lt_irrefl _ (Nat.lt_of_lt_of_le L0.out hk)) _⟩;clear hcut1 hcut2 hZe hNb hFl_ hbt hNd hbd hNe hbe hce f9 HB9 H0_9 H2_9 HP_9 HN9 HF9 HC1 HC2 hjw2;generalize (we.setCell ⟨g0,0,none⟩ (.slice Ac2 Z.length cc2))=w14 at *
    go_wp2_with fail
    have HB15:=zh (zc HB14.out);have H0_15:=zh (zf H0_14.out);have H2_15:=zh (zf H2_14.out);have HP_15:=zh (zf HP_14.out);have HV15:=zh (Kd.V_drew HV14.out);have q0:=zz H2_15.out 0;have q1:=zz H2_15.out 1;have f0:=zA H2_15.out 0;have f1:=zA H2_15.out 1;refine start_ (n:=6) (S:=fun w' => w'.cell? ⟨g0,0,none⟩=some (.slice Ac2 Z.length cc2)∧w'.cell? ⟨g0,1,none⟩=some (.int .i64 (n1+1))∧w'.cell? ⟨bp,0,none⟩=some (.int .i64 n1)) (ds:=[]) (bm_ 0 6) jA rfl rfl ⟨(zz H0_15.out 0).trans rfl,(zz H0_15.out 1).trans rfl,(zz HP_15.out 0).trans rfl⟩ (fun hHeld=>?_);generalize w14.drew=w15 at HB15 H0_15 H2_15 HP_15 HV15 q0 q1 f0 f1 hHeld ⊢;clear HB14 H0_14 H2_14 HP_14 HV14;refine pure_ (i:=1) (N:=some 130) (v:=?_) (a':=?_) #[false,true,false,false,false,false] rfl rfl jA (fun _ _ _ h=>h) (Or.inl ⟨by rfl,?_⟩) ?_ ?_;rotate_left;exact jb;rotate_left;exact jc
    refine take_ (i:=0) (N:=some 129) (v:=?_) (a':=?_) (bm_ 2 6) rfl rfl jA (fun _ _ _ h=>h) (Or.inl ⟨by rfl,?_⟩) hHeld ?_ ?_;rotate_left
    ·
     rintro w' ⟨s0,s1,s2⟩
     go_simp
     with_reducible rfl
    rotate_left
    exact jc
    refine take_ (i:=2) (N:=some 131) (v:=?_) (a':=?_) (bm_ 3 6) rfl rfl jA (fun _ _ _ h=>h) (Or.inl ⟨by rfl,?_⟩) hHeld ?_ ?_;rotate_left
    ·
     rintro w' ⟨s0,s1,s2⟩
     go_simp
     with_reducible rfl
    rotate_left
    exact jc
    refine one_ (i:=3) (N:=none) (bm_ 4 6) rfl rfl jA jB (fun K hK=>?_);refine skip_ (w1:=?_) (by rfl) rfl ?_ ?_;rotate_left
    ·
     go_simp
     rfl
    refine hK.out _ _ ⟨(zz ((Below.heap_setCell _ ⟨g2,_,none⟩ _ g0 N02.out).trans ((Below.heap_setCell _ ⟨g2,_,none⟩ _ g0 N02.out).trans H0_15.out)) 0).trans rfl,(zz ((Below.heap_setCell _ ⟨g2,_,none⟩ _ g0 N02.out).trans ((Below.heap_setCell _ ⟨g2,_,none⟩ _ g0 N02.out).trans H0_15.out)) 1).trans rfl,(zz ((Below.heap_setCell _ ⟨g2,_,none⟩ _ bp (Ne.symm BP2.out)).trans ((Below.heap_setCell _ ⟨g2,_,none⟩ _ bp (Ne.symm BP2.out)).trans HP_15.out)) 0).trans rfl⟩ (fun hHeld=>?_);clear hK K;refine pure_ (i:=4) (N:=some 5) (v:=?_) (a':=?_) (bm_ 5 6) rfl rfl jA (fun _ _ _ h=>h) (Or.inl ⟨by rfl,?_⟩) ?_ ?_;rotate_left;exact jb;rotate_left;exact jc
    refine pure_ (i:=5) (N:=some 6) (v:=?_) (a':=?_) (bm_ 6 6) rfl rfl jA (fun _ _ _ h=>h) (Or.inl ⟨by rfl,?_⟩) ?_ ?_;rotate_left;exact jb;rotate_left;exact jc
    refine done_ jA ?_
    go_wp2_with fail
    refine bodyPost_ret (results_ctt rfl _ _ g2 25 #[.slice Ac2 Z.length cc2,.int .i64 (n1+1)] (0,0) _ rfl (blk_set (blk_set H2_15.out 0 (.slice Ac2 Z.length cc2)) 1 (.int .i64 (n1+1))) hu25 rfl jA) rfl ?_;exact ⟨_,rfl,Kd.V_mono (Kd.V_far (p:=⟨g2,1,none⟩) (Kd.V_far (p:=⟨g2,0,none⟩) HV15.out (fun _ hk e9=>by rw [e9] at hk;exact Nat.lt_irrefl _ (Nat.lt_of_lt_of_le L2.out hk)) _) (fun _ hk e9=>by rw [e9] at hk;exact Nat.lt_irrefl _ (Nat.lt_of_lt_of_le L2.out hk)) _) (fun _ hk => .inr (Nat.le_trans GB0.out (Nat.le_trans (Nat.le_of_lt L0.out) hk))),zd (zd HB15.out GB2.out) GB2.out⟩

end Go.Proofs.Ytgifonogfgpjdaa.Q
end
section
namespace Go.Proofs.Ytgifonogfgpjdaa.Q
open Go.RowKit Go.Proofs.YtgifonogfgpjdaaW.PrintWords Go.Proofs.YtgifonogfgpjdaaW.PrintLast Go.Proofs.YtgifonogfgpjdaaW.PrintMore
attribute [local go_sem] max2_int min2_int max_two min_two max_three min_three max_four min_four max2_str min2_str str_geq str_gtr str_leq
set_option linter.unusedVariables false
set_option linter.unusedSimpArgs false

def Fd.f (s0_0 : List Int) (s0_1 : Int) (s0_2 : Int) : Option (Int×Int×Int):=if (wrap64 (s0_1+1))≤(s0_0.length : Int) then (if 0≤(wrap64 ((wrap64 (s0_1+1)) - 1)) then (if (wrap64 ((wrap64 (s0_1+1)) - 1))<(s0_0.length : Int) then (some (wrap64 (rd s0_0 (wrap64 ((wrap64 (s0_1+1)) - 1))),wrap64 (s0_1+1),Int.tmod (wrap64 ((wrap64 ((wrap64 (s0_2*31))+(wrap64 (rd s0_0 (wrap64 ((wrap64 (s0_1+1)) - 1))))))+7)) 2147483648)) else (none)) else (none)) else (if (wrap64 (s0_1+1)) > 3000 then (some (0,wrap64 (s0_1+1),s0_2)) else (some (Int.tmod (wrap64 (Int.tdiv (Int.tmod (wrap64 ((wrap64 (s0_2*1103515245))+12345)) 2147483648) 65536)) 256,wrap64 (s0_1+1),Int.tmod (wrap64 ((wrap64 (s0_2*1103515245))+12345)) 2147483648)))
def Fd.T2 : Bool×List (List Nat×List Nat):=(true,[([],[]),([0],[0]),([1],[1]),([2],[2]),([],[]),([4],[4]),([5],[5]),([6],[6]),([7],[7]),([3,8],[3,8])])
def Fd.B2 : List Nat:=[0,1,3,7,0,16,48,112,240,511]
theorem Fd.tab2 : rtab .any (opsOf Try.f64 2)=Fd.T2:=by kernel_rfl
theorem Fd.bits2 : waitsOk Fd.T2.2 Fd.B2=true:=by kernel_rfl
def Fd.T3 : Bool×List (List Nat×List Nat):=(true,[([],[]),([],[]),([1],[1]),([2],[2]),([3],[3]),([4],[4]),([],[]),([6],[6]),([7],[7]),([8],[8]),([],[]),([10],[10]),([11],[11]),([12],[12]),([13],[13]),([9,14],[9,14]),([15],[15]),([16],[16]),([5,17],[5,17]),([18],[18]),([19],[19]),([0,0,1,2,3,4,5,6,7,8,9,10,11,12,13,14,15,16,17,18,19,20],[0]),([21,0,1,2,3,4,5,6,7,8,9,10,11,12,13,14,15,16,17,18,19,20],[21]),([22,20,0,1,2,3,4,5,6,7,8,9,10,11,12,13,14,15,16,17,18,19,20],[20,22])])
def Fd.B3 : List Nat:=[0,0,2,6,14,30,0,64,192,448,0,1024,3072,7168,15360,32704,65472,131008,262142,524286,1048574,2097151,4194303,8388607]
theorem Fd.tab3 : rtab .any (opsOf Try.f64 3)=Fd.T3:=by kernel_rfl
theorem Fd.bits3 : waitsOk Fd.T3.2 Fd.B3=true:=by kernel_rfl
def Fd.T4 : Bool×List (List Nat×List Nat):=(true,[([],[]),([0],[0]),([1],[1]),([2],[2]),([],[]),([4],[4]),([5],[5]),([6],[6]),([7],[7]),([3,8],[3,8]),([9],[9]),([10],[10]),([11,0,1,2,3,4,5,6,7,8,9,10,11],[11])])
def Fd.B4 : List Nat:=[0,1,3,7,0,16,48,112,240,511,1023,2047,4095]
theorem Fd.tab4 : rtab .any (opsOf Try.f64 4)=Fd.T4:=by kernel_rfl
theorem Fd.bits4 : waitsOk Fd.T4.2 Fd.B4=true:=by kernel_rfl
set_option maxHeartbeats 8000000 in
set_option maxRecDepth 100000 in
theorem Fd.calls (g : Nat) (s0_0 : List Int) (s0_1 : Int) (s0_2 : Int) (r1 : Int) (r2 : Int) (r3 : Int) (w0 w : World) (hI : IsS71 w0 w g s0_0 s0_1 s0_2) (hB : Below w0.heap.size w0 w) (h : Fd.f s0_0 s0_1 s0_2=some (r1,r2,r3)) :
  Calls Try.prog 64 #[.pointer (some ⟨g,0,none⟩)] w fun e w' => e = .returned (.int .i64 r1)∧IsS71 w0 w' g s0_0 r2 r3∧Below w0.heap.size w0 w' ∧ KeepBut w w' g none:=by
 have HI0:=zh hI;have HK:=zh (KeepBut.refl w g none);have HL:=zh hB.size;clear hI;have HW0:=zh hB.size;have HB:=zh hB;clear hB;have H : (if (wrap64 (s0_1+1))≤(s0_0.length : Int) then (if 0≤(wrap64 ((wrap64 (s0_1+1)) - 1)) then (if (wrap64 ((wrap64 (s0_1+1)) - 1))<(s0_0.length : Int) then (some (wrap64 (rd s0_0 (wrap64 ((wrap64 (s0_1+1)) - 1))),wrap64 (s0_1+1),Int.tmod (wrap64 ((wrap64 ((wrap64 (s0_2*31))+(wrap64 (rd s0_0 (wrap64 ((wrap64 (s0_1+1)) - 1))))))+7)) 2147483648)) else (none)) else (none)) else (if (wrap64 (s0_1+1)) > 3000 then (some (0,wrap64 (s0_1+1),s0_2)) else (some (Int.tmod (wrap64 (Int.tdiv (Int.tmod (wrap64 ((wrap64 (s0_2*1103515245))+12345)) 2147483648) 65536)) 256,wrap64 (s0_1+1),Int.tmod (wrap64 ((wrap64 (s0_2*1103515245))+12345)) 2147483648))))=some (r1,r2,r3):=h;clear h
 by_cases c2 : (wrap64 (s0_1+1))≤(s0_0.length : Int)
 ·
  rw [if_pos c2] at H
  have c2b0 : decide ((wrap64 (s0_1+1))≤(s0_0.length : Int))=true:=decide_eq_true c2;clear c2;obtain ⟨ji3,hji3⟩ : ∃ j_ : Int,(wrap64 ((wrap64 (s0_1+1)) - 1))=j_:=⟨_,rfl⟩;replace H : (if 0≤(ji3) then (if (ji3)<(s0_0.length : Int) then (some (wrap64 (rd s0_0 (ji3)),wrap64 (s0_1+1),Int.tmod (wrap64 ((wrap64 ((wrap64 (s0_2*31))+(wrap64 (rd s0_0 (ji3)))))+7)) 2147483648)) else (none)) else (none))=some (r1,r2,r3):=by first|(rw [hji3] at H;exact H)|(simp only [hji3] at H ⊢;exact H)
  have hji3w : (IntKind.i64.wrap ((wrap64 (s0_1+1)) - 1))=ji3:=(zG _).trans hji3
  by_cases c4 : 0≤(ji3)
  ·
   rw [if_pos c4] at H
   have c4b0 : decide (0≤(ji3))=true:=decide_eq_true c4;clear c4
   by_cases c5 : (ji3)<(s0_0.length : Int)
   ·
    rw [if_pos c5] at H
    have c5b0 : decide ((ji3)<(s0_0.length : Int))=true:=decide_eq_true c5;clear c5;simp only [Option.some.injEq,Prod.mk.injEq] at H;obtain ⟨rfl,rfl,rfl⟩:=H;obtain ⟨ASz6_0,cSz6_0,HGz6,hgz6,HSz6_0⟩:=HI0.out;have hcz6_0:=cellS71_0 HGz6;have hcz6_1:=cellS71_1 HGz6;have hcz6_2:=cellS71_2 HGz6;have hfz6_1:=zA HGz6 1;have hfz6_2:=zA HGz6 2;clear HGz6 hgz6
    go_enter Try.func64,Try.ntmps64
    try go_wp2
    have n0_ : Aside0 (IsS71 w0 (w.setCell ⟨g,1,none⟩ (.int .i64 (wrap64 (s0_1+1)))) g s0_0 (wrap64 (s0_1+1)) s0_2):=⟨jf⟩;have n1_ : Aside0 (KeepBut w (w.setCell ⟨g,1,none⟩ (.int .i64 (wrap64 (s0_1+1)))) g none):=⟨jR⟩;have n2_ : Aside0 (Below w0.heap.size w0 (w.setCell ⟨g,1,none⟩ (.int .i64 (wrap64 (s0_1+1))))):=⟨jg⟩;(try clear HI0);(try clear HK);(try clear HB);generalize (w.setCell ⟨g,1,none⟩ (.int .i64 (wrap64 (s0_1+1))))=w7 at n0_ n1_ n2_ ⊢;have HI0:=n0_;have HK:=n1_;have HB:=n2_;clear n0_ n1_ n2_;replace HI0:=zh (IsS71.drew HI0.out);replace HK:=zh (yw HK.out);replace HB:=zh (zc HB.out);obtain ⟨ASz9_0,cSz9_0,HGz9,hgz9,HSz9_0⟩:=HI0.out;have hcz9_0:=cellS71_0 HGz9;have hcz9_1:=cellS71_1 HGz9;have hcz9_2:=cellS71_2 HGz9;have hfz9_1:=zA HGz9 1;have hfz9_2:=zA HGz9 2;clear HGz9 hgz9;refine start_ (n:=10) (S:=fun w' => w'.cell? ⟨g,0,none⟩=some (.slice ASz9_0 s0_0.length cSz9_0)∧w'.cell? ⟨g,1,none⟩=some (.int .i64 (wrap64 (s0_1+1)))∧w'.cell? ⟨g,2,none⟩=some (.int .i64 s0_2)) (ds:=[]) (bm_ 0 10) jA rfl rfl ⟨hcz9_0,hcz9_1,hcz9_2⟩ (fun hHeld=>?_);refine with_tabW Fd.tab2 Fd.bits2 (fun HT_ HW_=>?_);generalize w7.drew=w8 at HI0 HK HB hHeld ⊢;refine pure_ (i:=0) (N:=some 10) (v:=?_) (a':=?_) (bm_ 1 10) rfl rfl (any_of HT_.out jA) (fun _ _ _ h=>h) (Or.inl ⟨by rfl,?_⟩) ?_ ?_;rotate_left;exact jb;rotate_left;exact jc
    refine pure_ (i:=1) (N:=some 11) (v:=?_) (a':=?_) (bm_ 2 10) rfl rfl (any_of HT_.out jA) (fun _ _ _ h=>h) (Or.inl ⟨by rfl,?_⟩) ?_ ?_;rotate_left;exact jb;rotate_left;exact jc
    refine pure_ (i:=2) (N:=some 12) (v:=?_) (a':=?_) (bm_ 3 10) rfl rfl (any_of HT_.out jA) (fun _ _ _ h=>h) (Or.inl ⟨by rfl,?_⟩) ?_ ?_;rotate_left;exact jb;rotate_left;exact jc
    refine pure_ (i:=4) (N:=some 14) (v:=?_) (a':=?_) #[true,true,true,false,true,false,false,false,false,false] rfl rfl (any_of HT_.out jA) (fun _ _ _ h=>h) (Or.inl ⟨by rfl,?_⟩) ?_ ?_;rotate_left;exact jb;rotate_left;exact jc
    refine pure_ (i:=5) (N:=some 15) (v:=?_) (a':=?_) #[true,true,true,false,true,true,false,false,false,false] rfl rfl (any_of HT_.out jA) (fun _ _ _ h=>h) (Or.inl ⟨by rfl,?_⟩) ?_ ?_;rotate_left;exact jb;rotate_left;exact jc
    refine pure_ (i:=6) (N:=some 16) (v:=?_) (a':=?_) #[true,true,true,false,true,true,true,false,false,false] rfl rfl (any_of HT_.out jA) (fun _ _ _ h=>h) (Or.inl ⟨by rfl,?_⟩) ?_ ?_;rotate_left;exact jb;rotate_left;exact jc
    refine take_ (i:=3) (N:=some 13) (v:=?_) (a':=?_) (bm_ 7 10) rfl rfl (yo HT_.out HW_.out jA) (fun _ _ _ h=>h) (Or.inl ⟨by rfl,?_⟩) hHeld ?_ ?_;rotate_left
    ·
     rintro w' ⟨s0,s1,s2⟩
     go_simp
     with_reducible rfl
    rotate_left
    exact jc
    refine take_ (i:=7) (N:=some 17) (v:=?_) (a':=?_) (bm_ 8 10) rfl rfl (yo HT_.out HW_.out jA) (fun _ _ _ h=>h) (Or.inl ⟨by rfl,?_⟩) hHeld ?_ ?_;rotate_left
    ·
     rintro w' ⟨s0,s1,s2⟩
     go_simp
     with_reducible rfl
    rotate_left
    exact jc
    refine pure_ (i:=8) (N:=some 18) (v:=?_) (a':=?_) (bm_ 9 10) rfl rfl (any_of HT_.out jA) (fun _ _ _ h=>h) (Or.inl ⟨by rfl,?_⟩) ?_ ?_;rotate_left;exact jb;rotate_left;exact jc
    refine pure_ (i:=9) (N:=some 19) (v:=?_) (a':=?_) (bm_ 10 10) rfl rfl (any_of HT_.out jA) (fun _ _ _ h=>h) (Or.inl ⟨by rfl,?_⟩) ?_ ?_;rotate_left;exact jb;rotate_left;exact jc
    refine done_ (done_of HT_.out jA) ?_
    try go_wp2
    replace HI0:=zh (IsS71.drew HI0.out);replace HK:=zh (yw HK.out);replace HB:=zh (zc HB.out);obtain ⟨ASz11_0,cSz11_0,HGz11,hgz11,HSz11_0⟩:=HI0.out;have hcz11_0:=cellS71_0 HGz11;have hcz11_1:=cellS71_1 HGz11;have hcz11_2:=cellS71_2 HGz11;have hfz11_1:=zA HGz11 1;have hfz11_2:=zA HGz11 2;clear HGz11 hgz11;have p102 : 0≤((ji3) : Int):=zy jC;have q102 : (ji3)<(s0_0.length : Int):=zy jC;obtain ⟨ad102,e102,hx102_0⟩:=Kd.at_int HSz11_0 (ji3) p102 q102;have hw102_0:=hx102_0
    cases e102
    replace hx102_0:=pw_cell_below HB.out hx102_0;replace p102:=eq_true p102;replace q102:=eq_true q102;refine start_ (n:=24) (S:=fun w' => w'.cell? ⟨g,0,none⟩=some (.slice (some ad102) s0_0.length cSz11_0)∧w'.cell? ⟨g,1,none⟩=some (.int .i64 (wrap64 (s0_1+1)))∧w'.cell? ⟨g,2,none⟩=some (.int .i64 s0_2)∧w'.cell? (ad102.add ((ji3)).toNat)=some (.int .u8 (rd s0_0 (ji3)))) (ds:=[23]) (bm_ 0 24) jA rfl rfl ⟨hcz11_0,hcz11_1,hcz11_2,((HB.out.cell (zl w0 _ hw102_0)).trans hw102_0)⟩ (fun hHeld=>?_);refine with_tabW Fd.tab3 Fd.bits3 (fun HT_ HW_=>?_);generalize w8.drew=w10 at HI0 HK HB hx102_0 hHeld ⊢;refine pure_ (i:=0) (N:=some 20) (v:=?_) (a':=?_) (bm_ 1 24) rfl rfl (any_of HT_.out jA) (fun _ _ _ h=>h) (Or.inl ⟨by rfl,?_⟩) ?_ ?_;rotate_left;exact jb;rotate_left;exact jc
    refine pure_ (i:=1) (N:=some 21) (v:=?_) (a':=?_) (bm_ 2 24) rfl rfl (any_of HT_.out jA) (fun _ _ _ h=>h) (Or.inl ⟨by rfl,?_⟩) ?_ ?_;rotate_left;exact jb;rotate_left;exact jc
    refine pure_ (i:=2) (N:=some 22) (v:=?_) (a':=?_) (bm_ 3 24) rfl rfl (any_of HT_.out jA) (fun _ _ _ h=>h) (Or.inl ⟨by rfl,?_⟩) ?_ ?_;rotate_left;exact jb;rotate_left;exact jc
    refine pure_ (i:=3) (N:=some 23) (v:=?_) (a':=?_) (bm_ 4 24) rfl rfl (any_of HT_.out jA) (fun _ _ _ h=>h) (Or.inl ⟨by rfl,?_⟩) ?_ ?_;rotate_left;exact jb;rotate_left;exact jc
    refine pure_ (i:=6) (N:=some 26) (v:=?_) (a':=?_) #[true,true,true,true,false,false,true,false,false,false,false,false,false,false,false,false,false,false,false,false,false,false,false,false] rfl rfl (any_of HT_.out jA) (fun _ _ _ h=>h) (Or.inl ⟨by rfl,?_⟩) ?_ ?_;rotate_left;exact jb;rotate_left;exact jc
    refine pure_ (i:=7) (N:=some 27) (v:=?_) (a':=?_) #[true,true,true,true,false,false,true,true,false,false,false,false,false,false,false,false,false,false,false,false,false,false,false,false] rfl rfl (any_of HT_.out jA) (fun _ _ _ h=>h) (Or.inl ⟨by rfl,?_⟩) ?_ ?_;rotate_left;exact jb;rotate_left;exact jc
    refine pure_ (i:=8) (N:=some 28) (v:=?_) (a':=?_) #[true,true,true,true,false,false,true,true,true,false,false,false,false,false,false,false,false,false,false,false,false,false,false,false] rfl rfl (any_of HT_.out jA) (fun _ _ _ h=>h) (Or.inl ⟨by rfl,?_⟩) ?_ ?_;rotate_left;exact jb;rotate_left;exact jc
    refine pure_ (i:=10) (N:=some 30) (v:=?_) (a':=?_) #[true,true,true,true,false,false,true,true,true,false,true,false,false,false,false,false,false,false,false,false,false,false,false,false] rfl rfl (any_of HT_.out jA) (fun _ _ _ h=>h) (Or.inl ⟨by rfl,?_⟩) ?_ ?_;rotate_left;exact jb;rotate_left;exact jc
    refine pure_ (i:=11) (N:=some 31) (v:=?_) (a':=?_) #[true,true,true,true,false,false,true,true,true,false,true,true,false,false,false,false,false,false,false,false,false,false,false,false] rfl rfl (any_of HT_.out jA) (fun _ _ _ h=>h) (Or.inl ⟨by rfl,?_⟩) ?_ ?_;rotate_left;exact jb;rotate_left;exact jc
    refine pure_ (i:=12) (N:=some 32) (v:=?_) (a':=?_) #[true,true,true,true,false,false,true,true,true,false,true,true,true,false,false,false,false,false,false,false,false,false,false,false] rfl rfl (any_of HT_.out jA) (fun _ _ _ h=>h) (Or.inl ⟨by rfl,?_⟩) ?_ ?_;rotate_left;exact jb;rotate_left;exact jc
    refine take_ (i:=4) (N:=some 24) (v:=?_) (a':=?_) #[true,true,true,true,true,false,true,true,true,false,true,true,true,false,false,false,false,false,false,false,false,false,false,false] rfl rfl (yo HT_.out HW_.out jA) (fun _ _ _ h=>h) (Or.inl ⟨by rfl,?_⟩) hHeld ?_ ?_;rotate_left
    ·
     rintro w' ⟨s0,s1,s2,s3⟩
     go_simp
     with_reducible rfl
    rotate_left
    exact jc
    refine pure_ (i:=5) (N:=some 25) (v:=?_) (a':=?_) #[true,true,true,true,true,true,true,true,true,false,true,true,true,false,false,false,false,false,false,false,false,false,false,false] rfl rfl (any_of HT_.out jA) (fun _ _ _ h=>h) (Or.inl ⟨by rfl,?_⟩) ?_ ?_;rotate_left;exact jb;rotate_left;exact jc
    refine take_ (i:=9) (N:=some 29) (v:=?_) (a':=?_) (bm_ 13 24) rfl rfl (yo HT_.out HW_.out jA) (fun _ _ _ h=>h) (Or.inl ⟨by rfl,?_⟩) hHeld ?_ ?_;rotate_left
    ·
     rintro w' ⟨s0,s1,s2,s3⟩
     go_simp
     with_reducible rfl
    rotate_left
    exact jc
    refine take_ (i:=13) (N:=some 33) (v:=?_) (a':=?_) (bm_ 14 24) rfl rfl (yo HT_.out HW_.out jA) (fun _ _ _ h=>h) (Or.inl ⟨by rfl,?_⟩) hHeld ?_ ?_;rotate_left
    ·
     rintro w' ⟨s0,s1,s2,s3⟩
     go_simp
     with_reducible rfl
    rotate_left
    exact jc
    refine pure_ (i:=14) (N:=some 34) (v:=?_) (a':=?_) (bm_ 15 24) rfl rfl (any_of HT_.out jA) (fun _ _ _ h=>h) (Or.inl ⟨by rfl,?_⟩) ?_ ?_;rotate_left;exact jb;rotate_left;exact jc
    refine pure_ (i:=15) (N:=some 35) (v:=?_) (a':=?_) (bm_ 16 24) rfl rfl (any_of HT_.out jA) (fun _ _ _ h=>h) (Or.inl ⟨by rfl,?_⟩) ?_ ?_;rotate_left;exact jb;rotate_left;exact jc
    refine take_ (i:=16) (N:=some 36) (v:=?_) (a':=?_) (bm_ 17 24) rfl rfl (yo HT_.out HW_.out jA) (fun _ _ _ h=>h) (Or.inl ⟨by rfl,?_⟩) hHeld ?_ ?_;rotate_left
    ·
     rintro w' ⟨s0,s1,s2,s3⟩
     go_simp
     with_reducible rfl
    rotate_left
    exact jc
    refine pure_ (i:=17) (N:=some 37) (v:=?_) (a':=?_) (bm_ 18 24) rfl rfl (any_of HT_.out jA) (fun _ _ _ h=>h) (Or.inl ⟨by rfl,?_⟩) ?_ ?_;rotate_left;exact jb;rotate_left;exact jc
    refine pure_ (i:=18) (N:=some 38) (v:=?_) (a':=?_) (bm_ 19 24) rfl rfl (any_of HT_.out jA) (fun _ _ _ h=>h) (Or.inl ⟨by rfl,?_⟩) ?_ ?_;rotate_left;exact jb;rotate_left;exact jc
    refine pure_ (i:=19) (N:=some 39) (v:=?_) (a':=?_) (bm_ 20 24) rfl rfl (any_of HT_.out jA) (fun _ _ _ h=>h) (Or.inl ⟨by rfl,?_⟩) ?_ ?_;rotate_left;exact jb;rotate_left;exact jc
    refine pure_ (i:=20) (N:=some 40) (v:=?_) (a':=?_) (bm_ 21 24) rfl rfl (any_of HT_.out jA) (fun _ _ _ h=>h) (Or.inl ⟨by rfl,?_⟩) ?_ ?_;rotate_left;exact jb;rotate_left;exact jc
    refine pure_ (i:=21) (N:=some 41) (v:=?_) (a':=?_) (bm_ 22 24) rfl rfl (any_of HT_.out jA) (fun _ _ _ h=>h) (Or.inl ⟨by rfl,?_⟩) ?_ ?_;rotate_left;exact jb;rotate_left;exact jc
    refine pure_ (i:=22) (N:=some 42) (v:=?_) (a':=?_) (bm_ 23 24) rfl rfl (any_of HT_.out jA) (fun _ _ _ h=>h) (Or.inl ⟨by rfl,?_⟩) ?_ ?_;rotate_left;exact jb;rotate_left;exact jc
    refine last_ (i:=23) (N:=none) (bm_ 24 24) rfl rfl (one_of HT_.out jA) jB (fun K hK=>?_);obtain ⟨ASs12_0,cSs12_0,HGs12,hgs12,HSs12_0⟩:=HI0.out;have hcs12:=cellS71_2 HGs12;have hfs12:=zA HGs12 2;refine skip_ (w1:=?_) (by rfl) rfl ?_ ?_;rotate_left
    ·
     go_simp
     rfl
    refine hK.out _ _ ?_;clear hK K;refine done_ (done_of HT_.out jA) ?_
    try go_wp2
    have n0_ : Aside0 (IsS71 w0 (w10.setCell ⟨g,2,none⟩ (.int .i64 (Int.tmod (wrap64 ((wrap64 ((wrap64 (s0_2*31))+(wrap64 (rd s0_0 (ji3)))))+7)) 2147483648))) g s0_0 (wrap64 (s0_1+1)) (Int.tmod (wrap64 ((wrap64 ((wrap64 (s0_2*31))+(wrap64 (rd s0_0 (ji3)))))+7)) 2147483648)):=⟨jf⟩;have n1_ : Aside0 (KeepBut w (w10.setCell ⟨g,2,none⟩ (.int .i64 (Int.tmod (wrap64 ((wrap64 ((wrap64 (s0_2*31))+(wrap64 (rd s0_0 (ji3)))))+7)) 2147483648))) g none):=⟨jR⟩;have n2_ : Aside0 (Below w0.heap.size w0 (w10.setCell ⟨g,2,none⟩ (.int .i64 (Int.tmod (wrap64 ((wrap64 ((wrap64 (s0_2*31))+(wrap64 (rd s0_0 (ji3)))))+7)) 2147483648)))):=⟨jg⟩;(try clear HI0);(try clear HK);(try clear HB);generalize (w10.setCell ⟨g,2,none⟩ (.int .i64 (Int.tmod (wrap64 ((wrap64 ((wrap64 (s0_2*31))+(wrap64 (rd s0_0 (ji3)))))+7)) 2147483648)))=w13 at n0_ n1_ n2_ ⊢;have HI0:=n0_;have HK:=n1_;have HB:=n2_;clear n0_ n1_ n2_;replace HI0:=zh (IsS71.drew HI0.out);replace HK:=zh (yw HK.out);replace HB:=zh (zc HB.out);obtain ⟨ASz15_0,cSz15_0,HGz15,hgz15,HSz15_0⟩:=HI0.out;have hcz15_0:=cellS71_0 HGz15;have hcz15_1:=cellS71_1 HGz15;have hcz15_2:=cellS71_2 HGz15;have hfz15_1:=zA HGz15 1;have hfz15_2:=zA HGz15 2;clear HGz15 hgz15;have p103 : 0≤((ji3) : Int):=zy jC;have q103 : (ji3)<(s0_0.length : Int):=zy jC;obtain ⟨ad103,e103,hx103_0⟩:=Kd.at_int HSz15_0 (ji3) p103 q103;have hw103_0:=hx103_0
    cases e103
    replace hx103_0:=pw_cell_below HB.out hx103_0;replace p103:=eq_true p103;replace q103:=eq_true q103;refine start_ (n:=13) (S:=fun w' => w'.cell? ⟨g,0,none⟩=some (.slice (some ad103) s0_0.length cSz15_0)∧w'.cell? ⟨g,1,none⟩=some (.int .i64 (wrap64 (s0_1+1)))∧w'.cell? ⟨g,2,none⟩=some (.int .i64 (Int.tmod (wrap64 ((wrap64 ((wrap64 (s0_2*31))+(wrap64 (rd s0_0 (ji3)))))+7)) 2147483648))∧w'.cell? (ad103.add ((ji3)).toNat)=some (.int .u8 (rd s0_0 (ji3)))) (ds:=[]) (bm_ 0 13) jA rfl rfl ⟨hcz15_0,hcz15_1,hcz15_2,((HB.out.cell (zl w0 _ hw103_0)).trans hw103_0)⟩ (fun hHeld=>?_);refine with_tabW Fd.tab4 Fd.bits4 (fun HT_ HW_=>?_);generalize w13.drew=w14 at HI0 HK HB hx103_0 hHeld ⊢;refine pure_ (i:=0) (N:=some 43) (v:=?_) (a':=?_) (bm_ 1 13) rfl rfl (any_of HT_.out jA) (fun _ _ _ h=>h) (Or.inl ⟨by rfl,?_⟩) ?_ ?_;rotate_left;exact jb;rotate_left;exact jc
    refine pure_ (i:=1) (N:=some 44) (v:=?_) (a':=?_) (bm_ 2 13) rfl rfl (any_of HT_.out jA) (fun _ _ _ h=>h) (Or.inl ⟨by rfl,?_⟩) ?_ ?_;rotate_left;exact jb;rotate_left;exact jc
    refine pure_ (i:=2) (N:=some 45) (v:=?_) (a':=?_) (bm_ 3 13) rfl rfl (any_of HT_.out jA) (fun _ _ _ h=>h) (Or.inl ⟨by rfl,?_⟩) ?_ ?_;rotate_left;exact jb;rotate_left;exact jc
    refine pure_ (i:=4) (N:=some 47) (v:=?_) (a':=?_) #[true,true,true,false,true,false,false,false,false,false,false,false,false] rfl rfl (any_of HT_.out jA) (fun _ _ _ h=>h) (Or.inl ⟨by rfl,?_⟩) ?_ ?_;rotate_left;exact jb;rotate_left;exact jc
    refine pure_ (i:=5) (N:=some 48) (v:=?_) (a':=?_) #[true,true,true,false,true,true,false,false,false,false,false,false,false] rfl rfl (any_of HT_.out jA) (fun _ _ _ h=>h) (Or.inl ⟨by rfl,?_⟩) ?_ ?_;rotate_left;exact jb;rotate_left;exact jc
    refine pure_ (i:=6) (N:=some 49) (v:=?_) (a':=?_) #[true,true,true,false,true,true,true,false,false,false,false,false,false] rfl rfl (any_of HT_.out jA) (fun _ _ _ h=>h) (Or.inl ⟨by rfl,?_⟩) ?_ ?_;rotate_left;exact jb;rotate_left;exact jc
    refine take_ (i:=3) (N:=some 46) (v:=?_) (a':=?_) (bm_ 7 13) rfl rfl (yo HT_.out HW_.out jA) (fun _ _ _ h=>h) (Or.inl ⟨by rfl,?_⟩) hHeld ?_ ?_;rotate_left
    ·
     rintro w' ⟨s0,s1,s2,s3⟩
     go_simp
     with_reducible rfl
    rotate_left
    exact jc
    refine take_ (i:=7) (N:=some 50) (v:=?_) (a':=?_) (bm_ 8 13) rfl rfl (yo HT_.out HW_.out jA) (fun _ _ _ h=>h) (Or.inl ⟨by rfl,?_⟩) hHeld ?_ ?_;rotate_left
    ·
     rintro w' ⟨s0,s1,s2,s3⟩
     go_simp
     with_reducible rfl
    rotate_left
    exact jc
    refine pure_ (i:=8) (N:=some 51) (v:=?_) (a':=?_) (bm_ 9 13) rfl rfl (any_of HT_.out jA) (fun _ _ _ h=>h) (Or.inl ⟨by rfl,?_⟩) ?_ ?_;rotate_left;exact jb;rotate_left;exact jc
    refine pure_ (i:=9) (N:=some 52) (v:=?_) (a':=?_) (bm_ 10 13) rfl rfl (any_of HT_.out jA) (fun _ _ _ h=>h) (Or.inl ⟨by rfl,?_⟩) ?_ ?_;rotate_left;exact jb;rotate_left;exact jc
    refine take_ (i:=10) (N:=some 53) (v:=?_) (a':=?_) (bm_ 11 13) rfl rfl (yo HT_.out HW_.out jA) (fun _ _ _ h=>h) (Or.inl ⟨by rfl,?_⟩) hHeld ?_ ?_;rotate_left
    ·
     rintro w' ⟨s0,s1,s2,s3⟩
     go_simp
     with_reducible rfl
    rotate_left
    exact jc
    refine pure_ (i:=11) (N:=some 54) (v:=?_) (a':=?_) (bm_ 12 13) rfl rfl (any_of HT_.out jA) (fun _ _ _ h=>h) (Or.inl ⟨by rfl,?_⟩) ?_ ?_;rotate_left;exact jb;rotate_left;exact jc
    refine pure_ (i:=12) (N:=some 2) (v:=?_) (a':=?_) (bm_ 13 13) rfl rfl (any_of HT_.out jA) (fun _ _ _ h=>h) (Or.inl ⟨by rfl,?_⟩) ?_ ?_;rotate_left;exact jb;rotate_left;exact jc
    refine done_ (done_of HT_.out jA) ?_
    try go_wp2
    go_ret
    exact ⟨by first|rfl|(simp [yt,yu] <;> rfl)|(simp only [← hji3];first|rfl|(simp [yt,yu] <;> rfl))|(simp [*,yt,yu] <;> rfl),jf,jg,jR⟩
   rw [if_neg c5] at H;exact absurd H (by simp)
  rw [if_neg c4] at H;exact absurd H (by simp)
 rw [if_neg c2] at H;have c2b0 : decide ((wrap64 (s0_1+1))≤(s0_0.length : Int))=false:=decide_eq_false c2;clear c2
 by_cases c16 : (wrap64 (s0_1+1)) > 3000
 ·
  rw [if_pos c16] at H
  have c16b0 : decide (3000<(wrap64 (s0_1+1)))=true:=decide_eq_true c16;clear c16;simp only [Option.some.injEq,Prod.mk.injEq] at H;obtain ⟨rfl,rfl,rfl⟩:=H;obtain ⟨ASz17_0,cSz17_0,HGz17,hgz17,HSz17_0⟩:=HI0.out;have hcz17_0:=cellS71_0 HGz17;have hcz17_1:=cellS71_1 HGz17;have hcz17_2:=cellS71_2 HGz17;have hfz17_1:=zA HGz17 1;have hfz17_2:=zA HGz17 2;clear HGz17 hgz17
  go_enter Try.func64,Try.ntmps64
  try go_wp2
  have n0_ : Aside0 (IsS71 w0 (w.setCell ⟨g,1,none⟩ (.int .i64 (wrap64 (s0_1+1)))) g s0_0 (wrap64 (s0_1+1)) s0_2):=⟨jf⟩;have n1_ : Aside0 (KeepBut w (w.setCell ⟨g,1,none⟩ (.int .i64 (wrap64 (s0_1+1)))) g none):=⟨jR⟩;have n2_ : Aside0 (Below w0.heap.size w0 (w.setCell ⟨g,1,none⟩ (.int .i64 (wrap64 (s0_1+1))))):=⟨jg⟩;(try clear HI0);(try clear HK);(try clear HB);generalize (w.setCell ⟨g,1,none⟩ (.int .i64 (wrap64 (s0_1+1))))=w18 at n0_ n1_ n2_ ⊢;have HI0:=n0_;have HK:=n1_;have HB:=n2_;clear n0_ n1_ n2_;replace HI0:=zh (IsS71.drew HI0.out);replace HK:=zh (yw HK.out);replace HB:=zh (zc HB.out);obtain ⟨ASz20_0,cSz20_0,HGz20,hgz20,HSz20_0⟩:=HI0.out;have hcz20_0:=cellS71_0 HGz20;have hcz20_1:=cellS71_1 HGz20;have hcz20_2:=cellS71_2 HGz20;have hfz20_1:=zA HGz20 1;have hfz20_2:=zA HGz20 2;clear HGz20 hgz20;refine start_ (n:=10) (S:=fun w' => w'.cell? ⟨g,0,none⟩=some (.slice ASz20_0 s0_0.length cSz20_0)∧w'.cell? ⟨g,1,none⟩=some (.int .i64 (wrap64 (s0_1+1)))∧w'.cell? ⟨g,2,none⟩=some (.int .i64 s0_2)) (ds:=[]) (bm_ 0 10) jA rfl rfl ⟨hcz20_0,hcz20_1,hcz20_2⟩ (fun hHeld=>?_);refine with_tabW Fd.tab2 Fd.bits2 (fun HT_ HW_=>?_);generalize w18.drew=w19 at HI0 HK HB hHeld ⊢;refine pure_ (i:=0) (N:=some 10) (v:=?_) (a':=?_) (bm_ 1 10) rfl rfl (any_of HT_.out jA) (fun _ _ _ h=>h) (Or.inl ⟨by rfl,?_⟩) ?_ ?_;rotate_left;exact jb;rotate_left;exact jc
  refine pure_ (i:=1) (N:=some 11) (v:=?_) (a':=?_) (bm_ 2 10) rfl rfl (any_of HT_.out jA) (fun _ _ _ h=>h) (Or.inl ⟨by rfl,?_⟩) ?_ ?_;rotate_left;exact jb;rotate_left;exact jc
  refine pure_ (i:=2) (N:=some 12) (v:=?_) (a':=?_) (bm_ 3 10) rfl rfl (any_of HT_.out jA) (fun _ _ _ h=>h) (Or.inl ⟨by rfl,?_⟩) ?_ ?_;rotate_left;exact jb;rotate_left;exact jc
  refine pure_ (i:=4) (N:=some 14) (v:=?_) (a':=?_) #[true,true,true,false,true,false,false,false,false,false] rfl rfl (any_of HT_.out jA) (fun _ _ _ h=>h) (Or.inl ⟨by rfl,?_⟩) ?_ ?_;rotate_left;exact jb;rotate_left;exact jc
  refine pure_ (i:=5) (N:=some 15) (v:=?_) (a':=?_) #[true,true,true,false,true,true,false,false,false,false] rfl rfl (any_of HT_.out jA) (fun _ _ _ h=>h) (Or.inl ⟨by rfl,?_⟩) ?_ ?_;rotate_left;exact jb;rotate_left;exact jc
  refine pure_ (i:=6) (N:=some 16) (v:=?_) (a':=?_) #[true,true,true,false,true,true,true,false,false,false] rfl rfl (any_of HT_.out jA) (fun _ _ _ h=>h) (Or.inl ⟨by rfl,?_⟩) ?_ ?_;rotate_left;exact jb;rotate_left;exact jc
  refine take_ (i:=3) (N:=some 13) (v:=?_) (a':=?_) (bm_ 7 10) rfl rfl (yo HT_.out HW_.out jA) (fun _ _ _ h=>h) (Or.inl ⟨by rfl,?_⟩) hHeld ?_ ?_;rotate_left
  ·
   rintro w' ⟨s0,s1,s2⟩
   go_simp
   with_reducible rfl
  rotate_left
  exact jc
  refine take_ (i:=7) (N:=some 17) (v:=?_) (a':=?_) (bm_ 8 10) rfl rfl (yo HT_.out HW_.out jA) (fun _ _ _ h=>h) (Or.inl ⟨by rfl,?_⟩) hHeld ?_ ?_;rotate_left
  ·
   rintro w' ⟨s0,s1,s2⟩
   go_simp
   with_reducible rfl
  rotate_left
  exact jc
  refine pure_ (i:=8) (N:=some 18) (v:=?_) (a':=?_) (bm_ 9 10) rfl rfl (any_of HT_.out jA) (fun _ _ _ h=>h) (Or.inl ⟨by rfl,?_⟩) ?_ ?_;rotate_left;exact jb;rotate_left;exact jc
  refine pure_ (i:=9) (N:=some 19) (v:=?_) (a':=?_) (bm_ 10 10) rfl rfl (any_of HT_.out jA) (fun _ _ _ h=>h) (Or.inl ⟨by rfl,?_⟩) ?_ ?_;rotate_left;exact jb;rotate_left;exact jc
  refine done_ (done_of HT_.out jA) ?_;obtain ⟨ASz21_0,cSz21_0,HGz21,hgz21,HSz21_0⟩:=HI0.out;have hcz21_0:=cellS71_0 HGz21;have hcz21_1:=cellS71_1 HGz21;have hcz21_2:=cellS71_2 HGz21;have hfz21_1:=zA HGz21 1;have hfz21_2:=zA HGz21 2;clear HGz21 hgz21
  try go_wp2
  go_ret
  exact ⟨jG,jf,jg,jR⟩
 rw [if_neg c16] at H;have c16b0 : decide (3000<(wrap64 (s0_1+1)))=false:=decide_eq_false c16;clear c16;simp only [Option.some.injEq,Prod.mk.injEq] at H;obtain ⟨rfl,rfl,rfl⟩:=H;obtain ⟨ASz22_0,cSz22_0,HGz22,hgz22,HSz22_0⟩:=HI0.out;have hcz22_0:=cellS71_0 HGz22;have hcz22_1:=cellS71_1 HGz22;have hcz22_2:=cellS71_2 HGz22;have hfz22_1:=zA HGz22 1;have hfz22_2:=zA HGz22 2;clear HGz22 hgz22
 go_enter Try.func64,Try.ntmps64
 try go_wp2
 have n0_ : Aside0 (IsS71 w0 (w.setCell ⟨g,1,none⟩ (.int .i64 (wrap64 (s0_1+1)))) g s0_0 (wrap64 (s0_1+1)) s0_2):=⟨jf⟩;have n1_ : Aside0 (KeepBut w (w.setCell ⟨g,1,none⟩ (.int .i64 (wrap64 (s0_1+1)))) g none):=⟨jR⟩;have n2_ : Aside0 (Below w0.heap.size w0 (w.setCell ⟨g,1,none⟩ (.int .i64 (wrap64 (s0_1+1))))):=⟨jg⟩;(try clear HI0);(try clear HK);(try clear HB);generalize (w.setCell ⟨g,1,none⟩ (.int .i64 (wrap64 (s0_1+1))))=w23 at n0_ n1_ n2_ ⊢;have HI0:=n0_;have HK:=n1_;have HB:=n2_;clear n0_ n1_ n2_;replace HI0:=zh (IsS71.drew HI0.out);replace HK:=zh (yw HK.out);replace HB:=zh (zc HB.out);obtain ⟨ASz25_0,cSz25_0,HGz25,hgz25,HSz25_0⟩:=HI0.out;have hcz25_0:=cellS71_0 HGz25;have hcz25_1:=cellS71_1 HGz25;have hcz25_2:=cellS71_2 HGz25;have hfz25_1:=zA HGz25 1;have hfz25_2:=zA HGz25 2;clear HGz25 hgz25;refine start_ (n:=10) (S:=fun w' => w'.cell? ⟨g,0,none⟩=some (.slice ASz25_0 s0_0.length cSz25_0)∧w'.cell? ⟨g,1,none⟩=some (.int .i64 (wrap64 (s0_1+1)))∧w'.cell? ⟨g,2,none⟩=some (.int .i64 s0_2)) (ds:=[]) (bm_ 0 10) jA rfl rfl ⟨hcz25_0,hcz25_1,hcz25_2⟩ (fun hHeld=>?_);refine with_tabW Fd.tab2 Fd.bits2 (fun HT_ HW_=>?_);generalize w23.drew=w24 at HI0 HK HB hHeld ⊢;refine pure_ (i:=0) (N:=some 10) (v:=?_) (a':=?_) (bm_ 1 10) rfl rfl (any_of HT_.out jA) (fun _ _ _ h=>h) (Or.inl ⟨by rfl,?_⟩) ?_ ?_;rotate_left;exact jb;rotate_left;exact jc
 refine pure_ (i:=1) (N:=some 11) (v:=?_) (a':=?_) (bm_ 2 10) rfl rfl (any_of HT_.out jA) (fun _ _ _ h=>h) (Or.inl ⟨by rfl,?_⟩) ?_ ?_;rotate_left;exact jb;rotate_left;exact jc
 refine pure_ (i:=2) (N:=some 12) (v:=?_) (a':=?_) (bm_ 3 10) rfl rfl (any_of HT_.out jA) (fun _ _ _ h=>h) (Or.inl ⟨by rfl,?_⟩) ?_ ?_;rotate_left;exact jb;rotate_left;exact jc
 refine pure_ (i:=4) (N:=some 14) (v:=?_) (a':=?_) #[true,true,true,false,true,false,false,false,false,false] rfl rfl (any_of HT_.out jA) (fun _ _ _ h=>h) (Or.inl ⟨by rfl,?_⟩) ?_ ?_;rotate_left;exact jb;rotate_left;exact jc
 refine pure_ (i:=5) (N:=some 15) (v:=?_) (a':=?_) #[true,true,true,false,true,true,false,false,false,false] rfl rfl (any_of HT_.out jA) (fun _ _ _ h=>h) (Or.inl ⟨by rfl,?_⟩) ?_ ?_;rotate_left;exact jb;rotate_left;exact jc
 refine pure_ (i:=6) (N:=some 16) (v:=?_) (a':=?_) #[true,true,true,false,true,true,true,false,false,false] rfl rfl (any_of HT_.out jA) (fun _ _ _ h=>h) (Or.inl ⟨by rfl,?_⟩) ?_ ?_;rotate_left;exact jb;rotate_left;exact jc
 refine take_ (i:=3) (N:=some 13) (v:=?_) (a':=?_) (bm_ 7 10) rfl rfl (yo HT_.out HW_.out jA) (fun _ _ _ h=>h) (Or.inl ⟨by rfl,?_⟩) hHeld ?_ ?_;rotate_left
 ·
  rintro w' ⟨s0,s1,s2⟩
  go_simp
  with_reducible rfl
 rotate_left
 exact jc
 refine take_ (i:=7) (N:=some 17) (v:=?_) (a':=?_) (bm_ 8 10) rfl rfl (yo HT_.out HW_.out jA) (fun _ _ _ h=>h) (Or.inl ⟨by rfl,?_⟩) hHeld ?_ ?_;rotate_left
 ·
  rintro w' ⟨s0,s1,s2⟩
  go_simp
  with_reducible rfl
 rotate_left
 exact jc
 refine pure_ (i:=8) (N:=some 18) (v:=?_) (a':=?_) (bm_ 9 10) rfl rfl (any_of HT_.out jA) (fun _ _ _ h=>h) (Or.inl ⟨by rfl,?_⟩) ?_ ?_;rotate_left;exact jb;rotate_left;exact jc
 refine pure_ (i:=9) (N:=some 19) (v:=?_) (a':=?_) (bm_ 10 10) rfl rfl (any_of HT_.out jA) (fun _ _ _ h=>h) (Or.inl ⟨by rfl,?_⟩) ?_ ?_;rotate_left;exact jb;rotate_left;exact jc
 refine done_ (done_of HT_.out jA) ?_;obtain ⟨ASz26_0,cSz26_0,HGz26,hgz26,HSz26_0⟩:=HI0.out;have hcz26_0:=cellS71_0 HGz26;have hcz26_1:=cellS71_1 HGz26;have hcz26_2:=cellS71_2 HGz26;have hfz26_1:=zA HGz26 1;have hfz26_2:=zA HGz26 2;clear HGz26 hgz26
 try go_wp2
 go_ret
 exact ⟨jG,jf,jg,jR⟩


def Fu.f (s0_0 : List Int) (s0_1 : Int) (s0_2 : Int) (a1 : Int) : Option (Int×Int×Int):=if a1≤1 then (some (0,s0_1,s0_2)) else (if a1≤256 then ((Fd.f s0_0 s0_1 s0_2).bind fun bt104=>(if a1=0 then (none) else (some (Int.tmod bt104.1 a1,bt104.2.1,bt104.2.2)))) else ((Fd.f s0_0 s0_1 s0_2).bind fun bt107=>((Fd.f s0_0 bt107.2.1 bt107.2.2).bind fun bt110=>((Fd.f s0_0 bt110.2.1 bt110.2.2).bind fun bt113=>(if a1=0 then (none) else (some (Int.tmod (wrap64 ((wrap64 ((wrap64 (bt107.1*65536))+(wrap64 (bt110.1*256))))+bt113.1)) a1,bt113.2.1,bt113.2.2)))))))
set_option maxHeartbeats 8000000 in
set_option maxRecDepth 100000 in
theorem Fu.calls (g : Nat) (s0_0 : List Int) (s0_1 : Int) (s0_2 : Int) (a1 : Int) (r1 : Int) (r2 : Int) (r3 : Int) (w0 w : World) (hI : IsS71 w0 w g s0_0 s0_1 s0_2) (hB : Below w0.heap.size w0 w) (h : Fu.f s0_0 s0_1 s0_2 a1=some (r1,r2,r3)) :
  Calls Try.prog 44 #[.pointer (some ⟨g,0,none⟩),.int .i64 a1] w fun e w' => e = .returned (.int .i64 r1)∧IsS71 w0 w' g s0_0 r2 r3∧Below w0.heap.size w0 w' ∧ KeepBut w w' g none:=by
 have HI0:=zh hI;have HK:=zh (KeepBut.refl w g none);have HL:=zh hB.size;clear hI;have HW0:=zh hB.size;have HB:=zh hB;clear hB;have H : (if a1≤1 then (some (0,s0_1,s0_2)) else (if a1≤256 then ((Fd.f s0_0 s0_1 s0_2).bind fun bt104=>(if a1=0 then (none) else (some (Int.tmod bt104.1 a1,bt104.2.1,bt104.2.2)))) else ((Fd.f s0_0 s0_1 s0_2).bind fun bt107=>((Fd.f s0_0 bt107.2.1 bt107.2.2).bind fun bt110=>((Fd.f s0_0 bt110.2.1 bt110.2.2).bind fun bt113=>(if a1=0 then (none) else (some (Int.tmod (wrap64 ((wrap64 ((wrap64 (bt107.1*65536))+(wrap64 (bt110.1*256))))+bt113.1)) a1,bt113.2.1,bt113.2.2))))))))=some (r1,r2,r3):=h;clear h
 by_cases c3 : a1≤1
 ·
  rw [if_pos c3] at H
  have c3b0 : decide (a1≤1)=true:=decide_eq_true c3;clear c3;simp only [Option.some.injEq,Prod.mk.injEq] at H;obtain ⟨rfl,rfl,rfl⟩:=H
  go_enter Try.func44,Try.ntmps44
  go_wp2
  go_ret
  exact ⟨jG,jf,jg,jR⟩
 rw [if_neg c3] at H;have c3b0 : decide (a1≤1)=false:=decide_eq_false c3;clear c3
 by_cases c4 : a1≤256
 ·
  rw [if_pos c4] at H
  have c4b0 : decide (a1≤256)=true:=decide_eq_true c4;clear c4;replace H:=zT.mp H;obtain ⟨⟨t104,t105,t106⟩,A50,H⟩:=H;have A5:=zh A50;clear A50
  by_cases c6 : a1=0
  ·
   rw [if_pos c6] at H
   exact absurd H (by simp)
  rw [if_neg c6] at H;have c6b0 : (a1 == 0)=false:=zY.mpr c6;have c6b1 : (a1 != 0)=true:=zZ.mpr c6;simp only [Option.some.injEq,Prod.mk.injEq] at H;obtain ⟨rfl,rfl,rfl⟩:=H
  go_enter Try.func44,Try.ntmps44
  go_wp2_with (first|((with_reducible refine zJ (f:=64) rfl ?_);refine yj (some 13) rfl rfl Try.func64 jA rfl #[.pointer (some ⟨g,0,none⟩)] rfl jF ?_;(with_reducible refine (Fd.calls  g s0_0 s0_1 s0_2 t104 t105 t106 w0 _ ?side1 ?side2 A5.out).mono ?_);(case side1=>repeat (with_reducible first|exact HI0.out|apply IsS71.alloc|apply IsS71.drewN|apply IsS71.drew|apply IsS71.set_1|apply IsS71.set_2));(case side2=>repeat (with_reducible first|exact HB.out|apply za|apply zb|apply zc|refine zd ?_ (IsS71.ge HI0.out)));rintro e w7 ⟨rfl,hi,hb,hk⟩;refine ⟨_,rfl,?_⟩;replace HK:=zh (KeepBut.trans jR hk (.inl rfl));replace HB:=zh (hb);replace HI0:=zh (hi);(try clear hb);(try clear hb2);(try clear hk);(try clear hi)))
  go_ret
  exact ⟨jG,jf,jg,jR⟩
 rw [if_neg c4] at H;have c4b0 : decide (a1≤256)=false:=decide_eq_false c4;clear c4;replace H:=zT.mp H;obtain ⟨⟨t107,t108,t109⟩,A80,H⟩:=H;have A8:=zh A80;clear A80;replace H:=zT.mp H;obtain ⟨⟨t110,t111,t112⟩,A90,H⟩:=H;have A9:=zh A90;clear A90;replace H:=zT.mp H;obtain ⟨⟨t113,t114,t115⟩,A100,H⟩:=H;have A10:=zh A100;clear A100
 by_cases c11 : a1=0
 ·
  rw [if_pos c11] at H
  exact absurd H (by simp)
 rw [if_neg c11] at H;have c11b0 : (a1 == 0)=false:=zY.mpr c11;have c11b1 : (a1 != 0)=true:=zZ.mpr c11;simp only [Option.some.injEq,Prod.mk.injEq] at H;obtain ⟨rfl,rfl,rfl⟩:=H
 go_enter Try.func44,Try.ntmps44
 go_wp2_with (first|((with_reducible refine zJ (f:=64) rfl ?_);refine yj (some 17) rfl rfl Try.func64 jA rfl #[.pointer (some ⟨g,0,none⟩)] rfl jF ?_;(with_reducible refine (Fd.calls  g s0_0 s0_1 s0_2 t107 t108 t109 w0 _ ?side1 ?side2 A8.out).mono ?_);(case side1=>repeat (with_reducible first|exact HI0.out|apply IsS71.alloc|apply IsS71.drewN|apply IsS71.drew|apply IsS71.set_1|apply IsS71.set_2));(case side2=>repeat (with_reducible first|exact HB.out|apply za|apply zb|apply zc|refine zd ?_ (IsS71.ge HI0.out)));rintro e w12 ⟨rfl,hi,hb,hk⟩;refine ⟨_,rfl,?_⟩;replace HK:=zh (KeepBut.trans jR hk (.inl rfl));replace HB:=zh (hb);replace HI0:=zh (hi);(try clear hb);(try clear hb2);(try clear hk);(try clear hi))|((with_reducible refine zJ (f:=64) rfl ?_);refine yj (some 19) rfl rfl Try.func64 jA rfl #[.pointer (some ⟨g,0,none⟩)] rfl jF ?_;(with_reducible refine (Fd.calls  g s0_0 t108 t109 t110 t111 t112 w0 _ ?side1 ?side2 A9.out).mono ?_);(case side1=>repeat (with_reducible first|exact HI0.out|apply IsS71.alloc|apply IsS71.drewN|apply IsS71.drew|apply IsS71.set_1|apply IsS71.set_2));(case side2=>repeat (with_reducible first|exact HB.out|apply za|apply zb|apply zc|refine zd ?_ (IsS71.ge HI0.out)));rintro e w13 ⟨rfl,hi,hb,hk⟩;refine ⟨_,rfl,?_⟩;replace HK:=zh (KeepBut.trans jR hk (.inl rfl));replace HB:=zh (hb);replace HI0:=zh (hi);(try clear hb);(try clear hb2);(try clear hk);(try clear hi))|((with_reducible refine zJ (f:=64) rfl ?_);refine yj (some 21) rfl rfl Try.func64 jA rfl #[.pointer (some ⟨g,0,none⟩)] rfl jF ?_;(with_reducible refine (Fd.calls  g s0_0 t111 t112 t113 t114 t115 w0 _ ?side1 ?side2 A10.out).mono ?_);(case side1=>repeat (with_reducible first|exact HI0.out|apply IsS71.alloc|apply IsS71.drewN|apply IsS71.drew|apply IsS71.set_1|apply IsS71.set_2));(case side2=>repeat (with_reducible first|exact HB.out|apply za|apply zb|apply zc|refine zd ?_ (IsS71.ge HI0.out)));rintro e w14 ⟨rfl,hi,hb,hk⟩;refine ⟨_,rfl,?_⟩;replace HK:=zh (KeepBut.trans jR hk (.inl rfl));replace HB:=zh (hb);replace HI0:=zh (hi);(try clear hb);(try clear hb2);(try clear hk);(try clear hi)))
 go_ret
 exact ⟨jG,jf,jg,jR⟩


def F07.f (s0_0 : List Int) (s0_1 : Int) (s0_2 : Int) (l1 : List ByteArray) : Option (ByteArray×Int×Int):=if (l1.length : Int)=0 then (some ((⟨#[]⟩ : ByteArray),s0_1,s0_2)) else ((Fu.f s0_0 s0_1 s0_2 (l1.length : Int)).bind fun bt116=>(if 0≤bt116.1 then (if bt116.1<(l1.length : Int) then (some (rdOf ByteArray.empty l1 bt116.1,bt116.2.1,bt116.2.2)) else (none)) else (none)))
set_option maxHeartbeats 8000000 in
set_option maxRecDepth 100000 in
theorem F07.calls (g : Nat) (s0_0 : List Int) (s0_1 : Int) (s0_2 : Int) (A1 : Option Addr) (c1 : Nat) (l1 : List ByteArray) (r1 : ByteArray) (r2 : Int) (r3 : Int) (w0 w : World) (hI : IsS71 w0 w g s0_0 s0_1 s0_2) (hB : Below w0.heap.size w0 w) (hr1 : Kd.C Kd.string w A1 l1.length l1) (hc1 : l1.length≤c1) (hf1 : ∀ ad,A1=some ad→0<l1.length→ad.block≠g) (h : F07.f s0_0 s0_1 s0_2 l1=some (r1,r2,r3)) :
  Calls Try.prog 47 #[.pointer (some ⟨g,0,none⟩),.slice A1 l1.length c1] w fun e w' => e = .returned (.string r1)∧IsS71 w0 w' g s0_0 r2 r3∧Below w0.heap.size w0 w' ∧ KeepBut w w' g none:=by
 have HR1:=zh hr1;have HC1:=zh hc1;clear hr1 hc1;have HI0:=zh hI;have HK:=zh (KeepBut.refl w g none);have HL:=zh hB.size;clear hI;have HW0:=zh hB.size;have HB:=zh hB;clear hB;have H : (if (l1.length : Int)=0 then (some ((⟨#[]⟩ : ByteArray),s0_1,s0_2)) else ((Fu.f s0_0 s0_1 s0_2 (l1.length : Int)).bind fun bt116=>(if 0≤bt116.1 then (if bt116.1<(l1.length : Int) then (some (rdOf ByteArray.empty l1 bt116.1,bt116.2.1,bt116.2.2)) else (none)) else (none))))=some (r1,r2,r3):=h;clear h
 by_cases c3 : (l1.length : Int)=0
 ·
  rw [if_pos c3] at H
  have c3b0 : ((l1.length : Int) == 0)=true:=ya.mpr c3;have c3b1 : ((l1.length : Int) != 0)=false:=zX.mpr c3;clear c3;simp only [Option.some.injEq,Prod.mk.injEq] at H;obtain ⟨rfl,rfl,rfl⟩:=H
  go_enter Try.func47,Try.ntmps47
  go_wp2
  go_ret
  exact ⟨jG,jf,jg,jR⟩
 rw [if_neg c3] at H;have c3b0 : ((l1.length : Int) == 0)=false:=zY.mpr c3;have c3b1 : ((l1.length : Int) != 0)=true:=zZ.mpr c3;have c3b2 : ¬ (l1=[]):=fun h_=>c3 (by rw [h_];rfl);replace H:=zT.mp H;obtain ⟨⟨t116,t117,t118⟩,A40,H⟩:=H;have A4:=zh A40;clear A40
 by_cases c5 : 0≤t116
 ·
  rw [if_pos c5] at H
  have c5b0 : decide (0≤t116)=true:=decide_eq_true c5;clear c5
  by_cases c6 : t116<(l1.length : Int)
  ·
   rw [if_pos c6] at H
   have c6b0 : decide (t116<(l1.length : Int))=true:=decide_eq_true c6;clear c6;simp only [Option.some.injEq,Prod.mk.injEq] at H;obtain ⟨rfl,rfl,rfl⟩:=H
   go_enter Try.func47,Try.ntmps47
   go_wp2_with (first|((with_reducible refine zJ (f:=44) rfl ?_);refine yj (some 12) rfl rfl Try.func44 jA rfl #[.pointer (some ⟨g,0,none⟩),.int .i64 (l1.length : Int)] rfl jF ?_;(with_reducible refine (Fu.calls  g s0_0 s0_1 s0_2 (l1.length : Int) t116 t117 t118 w0 _ ?side1 ?side2 A4.out).mono ?_);(case side1=>repeat (with_reducible first|exact HI0.out|apply IsS71.alloc|apply IsS71.drewN|apply IsS71.drew|apply IsS71.set_1|apply IsS71.set_2));(case side2=>repeat (with_reducible first|exact HB.out|apply za|apply zb|apply zc|refine zd ?_ (IsS71.ge HI0.out)));rintro e w7 ⟨rfl,hi,hb,hk⟩;refine ⟨_,rfl,?_⟩;replace HK:=zh (KeepBut.trans jR hk (.inl rfl));replace HB:=zh (hb);replace HI0:=zh (hi);(try clear hb);(try clear hb2);(try clear hk);(try clear hi);have p119 : 0≤(t116 : Int):=zy jC;have q119 : t116<(l1.length : Int):=zy jC;obtain ⟨ad119,e119,hx119_0⟩:=Kd.at_string HR1.out t116 p119 q119;cases e119;replace hx119_0:=keep_cell HK.out hx119_0 (by first|(rw [zF];exact hf1 _ rfl jE)|exact hf1 _ rfl jE|exact hf1 ad119 rfl jE);replace p119:=eq_true p119;replace q119:=eq_true q119))
   go_ret
   exact ⟨jG,jf,jg,jR⟩
  rw [if_neg c6] at H;exact absurd H (by simp)
 rw [if_neg c5] at H;exact absurd H (by simp)


def Fx.f (s0_0 : List Int) (s0_1 : Int) (s0_2 : Int) : Option (ByteArray×Int×Int×Int):=(F07.f s0_0 s0_1 s0_2 (([(⟨#[97]⟩ : ByteArray),(⟨#[98]⟩ : ByteArray),(⟨#[99]⟩ : ByteArray),(⟨#[97,97]⟩ : ByteArray),(⟨#[]⟩ : ByteArray),(⟨#[100]⟩ : ByteArray),(⟨#[101]⟩ : ByteArray)] : List ByteArray))).bind fun bt124=>((Fu.f s0_0 bt124.2.1 bt124.2.2 4).bind fun bt127=>(some (bt124.1,bt127.1,bt127.2.1,bt127.2.2)))
set_option maxHeartbeats 8000000 in
set_option maxRecDepth 100000 in
theorem Fx.calls (g : Nat) (s0_0 : List Int) (s0_1 : Int) (s0_2 : Int) (r1 : ByteArray) (r2 : Int) (r3 : Int) (r4 : Int) (w0 w : World) (hI : IsS71 w0 w g s0_0 s0_1 s0_2) (hB : Below w0.heap.size w0 w) (h : Fx.f s0_0 s0_1 s0_2=some (r1,r2,r3,r4)) :
  Calls Try.prog 23 #[.pointer (some ⟨g,0,none⟩)] w fun e w' => e = .returned (.agg #[.string r1,.int .i64 r2])∧IsS71 w0 w' g s0_0 r3 r4∧Below w0.heap.size w0 w' ∧ KeepBut w w' g none:=by
 have hu28:=Try.underlying28;have HI0:=zh hI;have HK:=zh (KeepBut.refl w g none);have HL:=zh hB.size;clear hI;have HW0:=zh hB.size;have HB:=zh hB;clear hB;have H : ((F07.f s0_0 s0_1 s0_2 (([(⟨#[97]⟩ : ByteArray),(⟨#[98]⟩ : ByteArray),(⟨#[99]⟩ : ByteArray),(⟨#[97,97]⟩ : ByteArray),(⟨#[]⟩ : ByteArray),(⟨#[100]⟩ : ByteArray),(⟨#[101]⟩ : ByteArray)] : List ByteArray))).bind fun bt124=>((Fu.f s0_0 bt124.2.1 bt124.2.2 4).bind fun bt127=>(some (bt124.1,bt127.1,bt127.2.1,bt127.2.2))))=some (r1,r2,r3,r4):=h;clear h;obtain ⟨y121,hy121⟩ : ∃ y_ : List ByteArray,y_=(([(⟨#[97]⟩ : ByteArray),(⟨#[98]⟩ : ByteArray),(⟨#[99]⟩ : ByteArray),(⟨#[97,97]⟩ : ByteArray),(⟨#[]⟩ : ByteArray),(⟨#[100]⟩ : ByteArray),(⟨#[101]⟩ : ByteArray)] : List ByteArray)):=⟨_,rfl⟩;replace H : ((F07.f s0_0 s0_1 s0_2 y121).bind fun bt124=>((Fu.f s0_0 bt124.2.1 bt124.2.2 4).bind fun bt127=>(some (bt124.1,bt127.1,bt127.2.1,bt127.2.2))))=some (r1,r2,r3,r4):=by first|(rw [hy121];with_reducible exact H)|(have H2_:=(Option.bind_some _ _).symm.trans H;rw [hy121];with_reducible exact H2_)|(have H2_:=(Option.bind_some _ _).symm.trans H;with_reducible exact H2_)|with_reducible exact H|(rw [hy121];exact H)|exact H
 have Ny121:=zh hy121;clear hy121;replace H:=zT.mp H;obtain ⟨⟨t124,t125,t126⟩,A20,H⟩:=H;have A2:=zh A20;clear A20;replace H:=zT.mp H;obtain ⟨⟨t127,t128,t129⟩,A30,H⟩:=H;have A3:=zh A30;clear A30;simp only [Option.some.injEq,Prod.mk.injEq] at H;obtain ⟨rfl,rfl,rfl,rfl⟩:=H
 go_enter Try.func23,Try.ntmps23
 go_wp2_with (first|((with_reducible refine zK (N:=2) rfl ?_);refine zI ?hg (N:=2) ?hd (cs:=#[.string (⟨#[]⟩ : ByteArray),.int .i64 0]) (t:=28) ?hr ?_;(case hd=>rfl);(case hg=>rfl);(case hr=>go_simp <;> rfl);intro gb120 hg w4 hbox hb;replace HB:=zh (zC jg hb);have BK120:=zh (hbox);have GW120:=zh ((jA6 : w.heap.size≤gb120));have GE120:=zh ((Nat.le_trans HW0.out (jA6 : w.heap.size≤gb120) : w0.heap.size≤gb120));replace HK:=zh (KeepBut.trans jR (KeepBut.of_below hb g none) (.inl rfl));have NB0_120:=zh ((jB4 : g≠gb120));have NB120_0:=zh ((jB5 : gb120≠g));replace HI0:=zh (IsS71.below jf hb);clear hb hbox hg)|((with_reducible refine zK (N:=4) rfl ?_);refine Kd.R_lit Kd.string _ 9 ?hg (N:=4) ?hd (xs:=([(⟨#[97]⟩ : ByteArray),(⟨#[98]⟩ : ByteArray),(⟨#[99]⟩ : ByteArray),(⟨#[97,97]⟩ : ByteArray),(⟨#[]⟩ : ByteArray),(⟨#[100]⟩ : ByteArray),(⟨#[101]⟩ : ByteArray)] : List ByteArray)) (inner:=[.string (⟨#[97]⟩ : ByteArray),.string (⟨#[98]⟩ : ByteArray),.string (⟨#[99]⟩ : ByteArray),.string (⟨#[97,97]⟩ : ByteArray),.string (⟨#[]⟩ : ByteArray),.string (⟨#[100]⟩ : ByteArray),.string (⟨#[101]⟩ : ByteArray)]) (ok:=fun _=>True) (okp:=fun _=>True) ?hr ?hp (fun _ hk=>hk) trivial (Below.refl _ _) (ye _) (by simp) ?_;(case hd=>rfl);(case hg=>rfl);(case hr=>go_simp <;> rfl);(case hp=>exact (Reps.one (show Kd.M Kd.string _ _ _ (⟨#[97]⟩ : ByteArray) [.string (⟨#[97]⟩ : ByteArray)] from rfl) (Reps.one (show Kd.M Kd.string _ _ _ (⟨#[98]⟩ : ByteArray) [.string (⟨#[98]⟩ : ByteArray)] from rfl) (Reps.one (show Kd.M Kd.string _ _ _ (⟨#[99]⟩ : ByteArray) [.string (⟨#[99]⟩ : ByteArray)] from rfl) (Reps.one (show Kd.M Kd.string _ _ _ (⟨#[97,97]⟩ : ByteArray) [.string (⟨#[97,97]⟩ : ByteArray)] from rfl) (Reps.one (show Kd.M Kd.string _ _ _ (⟨#[]⟩ : ByteArray) [.string (⟨#[]⟩ : ByteArray)] from rfl) (Reps.one (show Kd.M Kd.string _ _ _ (⟨#[100]⟩ : ByteArray) [.string (⟨#[100]⟩ : ByteArray)] from rfl) (Reps.one (show Kd.M Kd.string _ _ _ (⟨#[101]⟩ : ByteArray) [.string (⟨#[101]⟩ : ByteArray)] from rfl) (Reps.none _ _)))))))));intro v122 w5 ho6 hb hg_ hnew_;clear hg_ hnew_;(first|rw [← Ny121.out] at ho6|(simp only [Int.reduceToNat] at ho6;rw [← Ny121.out] at ho6));have HO123:=zh (yx ho6 (keep_size (w:=w) (g:=g) (row:=none) jAs));replace BK120:=zh (cD BK120.out jBc hb);replace HK:=zh (KeepBut.trans jAs (KeepBut.of_below hb g none) (.inl rfl));replace HB:=zh (zC jB6 hb);replace HI0:=zh (IsS71.below jB7 hb);clear hb ho6;obtain ⟨Ao7,co7,eo7⟩:=yk HO123.out;subst eo7)|((with_reducible refine zJ (f:=47) rfl ?_);refine yj (some 5) rfl rfl Try.func47 jA rfl #[.pointer (some ⟨g,0,none⟩),.slice Ao7 y121.length co7] rfl jF ?_;(with_reducible refine (F07.calls  g s0_0 s0_1 s0_2 _ _ y121 t124 t125 t126 w0 _ ?side1 ?side2 ?side3 ?side4 ?side5 A2.out).mono ?_);(case side1=>repeat (with_reducible first|exact HI0.out|apply IsS71.alloc|apply IsS71.drewN|apply IsS71.drew|apply IsS71.set_1|apply IsS71.set_2|refine IsS71.far ?_ NB0_120.out _));(case side2=>repeat (with_reducible first|exact HB.out|apply za|apply zb|apply zc|refine zd ?_ (IsS71.ge HI0.out)|refine zd ?_ GE120.out));(case side3=>repeat (first|exact (yh HO123.out).2.2|(with_reducible refine Kd.C_alloc ?_ _)|(with_reducible refine Kd.C_drewN ?_ _)|(with_reducible refine Kd.C_drew ?_)));(case side4=>exact (yh HO123.out).2.1);(case side5=>exact far_slice (IsS71.own_ne HI0.out HO123.out jB));rintro e w8 ⟨rfl,hi,hb,hk⟩;refine ⟨_,rfl,?_⟩;replace BK120:=zh (KeepBut.blk hk (g':=gb120) (o:=.cells #[.string (⟨#[]⟩ : ByteArray),.int .i64 0] 28 (0,0)) jBc NB120_0.out (by simp));replace HO123:=zh (zM (Kd.R_keep (IsS71.apart (show IsS71 w0 _ g s0_0 s0_1 s0_2 from by repeat (with_reducible first|exact HI0.out|apply IsS71.alloc|apply IsS71.drewN|apply IsS71.drew|apply IsS71.set_1|apply IsS71.set_2|refine IsS71.far ?_ NB0_120.out _)) jB8 jB) hk (fun _ h=>h.2)) (fun _ h=>h.1));replace HK:=zh (KeepBut.trans jAs hk (.inl rfl));replace HB:=zh (hb);replace HI0:=zh (hi);(try clear hb);(try clear hb2);(try clear hk);(try clear hi))|((with_reducible refine zJ (f:=44) rfl ?_);refine yj (some 7) rfl rfl Try.func44 jA rfl #[.pointer (some ⟨g,0,none⟩),.int .i64 4] rfl jF ?_;(with_reducible refine (Fu.calls  g s0_0 t125 t126 4 t127 t128 t129 w0 _ ?side1 ?side2 A3.out).mono ?_);(case side1=>repeat (with_reducible first|exact HI0.out|apply IsS71.alloc|apply IsS71.drewN|apply IsS71.drew|apply IsS71.set_1|apply IsS71.set_2|refine IsS71.far ?_ NB0_120.out _));(case side2=>repeat (with_reducible first|exact HB.out|apply za|apply zb|apply zc|refine zd ?_ (IsS71.ge HI0.out)|refine zd ?_ GE120.out));rintro e w9 ⟨rfl,hi,hb,hk⟩;refine ⟨_,rfl,?_⟩;replace BK120:=zh (KeepBut.blk hk (g':=gb120) (o:=.cells #[.string (⟨#[]⟩ : ByteArray),.int .i64 0] 28 (0,0)) jBc NB120_0.out (by simp));replace HO123:=zh (zM (Kd.R_keep (IsS71.apart (show IsS71 w0 _ g s0_0 t125 t126 from by repeat (with_reducible first|exact HI0.out|apply IsS71.alloc|apply IsS71.drewN|apply IsS71.drew|apply IsS71.set_1|apply IsS71.set_2|refine IsS71.far ?_ NB0_120.out _)) jB8 jB) hk (fun _ h=>h.2)) (fun _ h=>h.1));replace HK:=zh (KeepBut.trans jAs hk (.inl rfl));replace HB:=zh (hb);replace HI0:=zh (hi);(try clear hb);(try clear hb2);(try clear hk);(try clear hi);have hnb10:=NB120_0.out;have hnc10:=NB0_120.out;obtain ⟨hcz11_0,hcz11_1,hfz11_0,hfz11_1⟩:=cB2 BK120.out))
 refine bodyPost_ret (results_cell_row rfl _ _ gb120 28 #[.string t124,.int .i64 t127] (0,0) _ rfl (by (with_reducible repeat first|apply ze|apply zf|apply zg);refine zL (cs:=#[.string t124,.int .i64 0]) ?_ 1 _ rfl;(with_reducible repeat first|apply ze|apply zf|apply zg);refine zL (cs:=#[.string (⟨#[]⟩ : ByteArray),.int .i64 0]) ?_ 0 _ rfl;(with_reducible repeat first|apply ze|apply zf|apply zg);exact BK120.out) Try.underlying28 rfl jA) rfl ?_;exact ⟨jG,jB7,jB6,jAs⟩


def F0c.f  : Option ((List (S60))×Int):=some ((([(⟨1,(([] : List (S28)))⟩ : S60)] : List (S60))),2)
set_option maxHeartbeats 8000000 in
set_option maxRecDepth 100000 in
theorem F0c.calls  (r1 : List (S60)) (r2 : Int) (w : World) (h : F0c.f  = some (r1,r2)) :
  Calls Try.prog 43 #[] w fun e w' => ∃ v0_ : Value,e = .returned (.agg #[v0_,.int .i64 r2])∧Kd.N k60 60 w' w.heap.size (fun k_=>(w.heap.size≤k_)) v0_ r1∧Below w.heap.size w w':=by
 have hu25:=Try.underlying25;have hu60:=Try.underlying60;have HB:=zh (Below.refl w.heap.size w);have H : (some ((([(⟨1,(([] : List (S28)))⟩ : S60)] : List (S60))),2))=some (r1,r2):=h;clear h;obtain ⟨y155,hy155⟩ : ∃ y_ : List (S28),y_=(([] : List (S28))):=⟨_,rfl⟩;replace H : (some ((([(⟨1,y155⟩ : S60)] : List (S60))),2))=some (r1,r2):=by first|(rw [hy155];with_reducible exact H)|(have H2_:=(Option.bind_some _ _).symm.trans H;rw [hy155];with_reducible exact H2_)|(have H2_:=(Option.bind_some _ _).symm.trans H;with_reducible exact H2_)|with_reducible exact H|(rw [hy155];exact H)|exact H
 have Ny155:=zh hy155;clear hy155;obtain ⟨y158,hy158⟩ : ∃ y_ : List (S60),y_=(([(⟨1,y155⟩ : S60)] : List (S60))):=⟨_,rfl⟩;replace H : (some (y158,2))=some (r1,r2):=by first|(rw [hy158];with_reducible exact H)|(have H2_:=(Option.bind_some _ _).symm.trans H;rw [hy158];with_reducible exact H2_)|(have H2_:=(Option.bind_some _ _).symm.trans H;with_reducible exact H2_)|with_reducible exact H|(rw [hy158];exact H)|exact H
 have Ny158:=zh hy158;clear hy158;simp only [Option.some.injEq,Prod.mk.injEq] at H;obtain ⟨rfl,rfl⟩:=H
 go_enter Try.func43,Try.ntmps43
 go_wp2_with (first|((with_reducible refine zK (N:=0) rfl ?_);refine zI ?hg (N:=0) ?hd (cs:=#[.slice none 0 0,.int .i64 0]) (t:=25) ?hr ?_;(case hd=>rfl);(case hg=>rfl);(case hr=>go_simp <;> rfl);intro gb154 hg w1 hbox hb;have BK154:=zh (hbox);have hH_:=cH jH hb hg;have GW154:=zh hH_.1;have GE154:=GW154;replace HB:=zh hH_.2;clear hb hbox hg hH_)|((with_reducible refine zK (N:=1) rfl ?_);refine Kd.R_lit k28 _ 28 ?hg (N:=1) ?hd (xs:=([] : List (S28))) (inner:=[]) (ok:=fun _=>True) (okp:=fun _=>True) ?hr ?hp (fun _ hk=>hk) trivial (Below.refl _ _) (ye _) (by simp) ?_;(case hd=>rfl);(case hg=>rfl);(case hr=>go_simp <;> rfl);(case hp=>exact (Reps.none _ _));intro v156 w2 ho3 hb hg_ hnew_;clear hg_ hnew_;(first|rw [← Ny155.out] at ho3|(simp only [Int.reduceToNat] at ho3;rw [← Ny155.out] at ho3));have HO157:=zh (yx (Kd.R_newM (M:=fun k_=>(w.heap.size≤k_)) ho3 (zB jAS) (fun k_ h_=>h_)) (zB jAS));replace BK154:=zh (cD BK154.out jBd hb);replace HB:=zh (zC jAS hb);clear hb ho3;obtain ⟨Ao4,co4,eo4⟩:=yk HO157.out;subst eo4)|((with_reducible refine zK (N:=3) rfl ?_);refine Kd.N_lit k60 _ 60 ?hg (N':=3) ?hd (xs:=([(⟨1,y155⟩ : S60)] : List (S60))) (inner:=[.int .i64 1,.slice Ao4 y155.length co4]) (ok:=(fun k_=>(w.heap.size≤k_)∧k_≠gb154)) (okp:=(fun k_=>(w.heap.size≤k_)∧k_≠gb154)) ?hr ?hp (fun _ hk=>hk) ((show ∀ k_,w2.heap.size≤k_→(fun k_=>(w.heap.size≤k_)∧k_≠gb154) k_ from fun k_ hk=>⟨(Nat.le_trans (zB jAS) hk),Kd.freshB (g:=gb154) (o:=.cells #[.slice none 0 0,.int .i64 0] 25 (0,0)) jBd k_ hk⟩) _ (ye _)) (Below.refl _ _) (ye _) (by simp) ?_;(case hd=>rfl);(case hg=>rfl);(case hr=>go_simp <;> rfl);(case hp=>exact (Reps.c2 (show Kd.FK k60 _ _ (⟨1,y155⟩ : S60) [.int .i64 1,.slice Ao4 y155.length co4] from (k60_mkF _ _ (⟨1,y155⟩ : S60) (yh (zM (ok':=(fun k_=>(w.heap.size≤k_)∧k_≠gb154)) (yf (HO157.out) BK154.out jB) (fun k_ hk=>⟨hk.1.1,hk.2⟩))).2.1 (Kd.R_F (zM (ok':=(fun k_=>(w.heap.size≤k_)∧k_≠gb154)) (yf (HO157.out) BK154.out jB) (fun k_ hk=>⟨hk.1.1,hk.2⟩))))) (Reps.none _ _)));intro v159 w5 ho6 hb hg_ hnew_;clear hg_ hnew_;(first|rw [← Ny158.out] at ho6|(simp only [Int.reduceToNat] at ho6;rw [← Ny158.out] at ho6));have HO160:=zh (Kd.N_lower ho6 (zB jAS));replace BK154:=zh (cD BK154.out jBd hb);replace HB:=zh (zC jAS hb);clear HO157 hb ho6;obtain ⟨Ao7,co7,eo7⟩:=Kd.N_slice HO160.out;subst eo7;obtain ⟨hcz8_0,hcz8_1,hfz8_0,hfz8_1⟩:=cB2 BK154.out))
 refine bodyPost_ret (results_cell_row rfl _ _ gb154 25 #[.slice Ao7 y158.length co7,.int .i64 2] (0,0) _ rfl (by (with_reducible repeat first|apply ze|apply zf|apply zg);refine zL (cs:=#[.slice Ao7 y158.length co7,.int .i64 0]) ?_ 1 _ rfl;(with_reducible repeat first|apply ze|apply zf|apply zg);refine zL (cs:=#[.slice none 0 0,.int .i64 0]) ?_ 0 _ rfl;(with_reducible repeat first|apply ze|apply zf|apply zg);exact BK154.out) Try.underlying25 rfl jA) rfl ?_;exact ⟨_,jG,by (with_reducible repeat (first|apply Kd.N_alloc|apply Kd.N_drewN|apply Kd.N_drew));exact Kd.N_mono (Kd.N_far (p:=⟨gb154,1,none⟩) (Kd.N_far (p:=⟨gb154,0,none⟩) (Kd.N_mono HO160.out (fun k_ hk=>(⟨hk,hk.2⟩ : _∧k_≠gb154))) (fun _ hk=>hk.2) (.slice Ao7 y158.length co7)) (fun _ hk=>hk.2) (.int .i64 2)) (fun _ hk=>hk.1.1),jAS⟩


def F09.f (s0_0 : List Int) (s0_1 : Int) (s0_2 : Int) (a1 : Int) : Option (Bool×Int×Int):=(Fu.f s0_0 s0_1 s0_2 a1).bind fun bt161=>(some ((bt161.1 == (wrap64 (a1 - 1))),bt161.2.1,bt161.2.2))
set_option maxHeartbeats 8000000 in
set_option maxRecDepth 100000 in
theorem F09.calls (g : Nat) (s0_0 : List Int) (s0_1 : Int) (s0_2 : Int) (a1 : Int) (r1 : Bool) (r2 : Int) (r3 : Int) (w0 w : World) (hI : IsS71 w0 w g s0_0 s0_1 s0_2) (hB : Below w0.heap.size w0 w) (h : F09.f s0_0 s0_1 s0_2 a1=some (r1,r2,r3)) :
  Calls Try.prog 45 #[.pointer (some ⟨g,0,none⟩),.int .i64 a1] w fun e w' => e = .returned (.bool r1)∧IsS71 w0 w' g s0_0 r2 r3∧Below w0.heap.size w0 w' ∧ KeepBut w w' g none:=by
 have HI0:=zh hI;have HK:=zh (KeepBut.refl w g none);have HL:=zh hB.size;clear hI;have HW0:=zh hB.size;have HB:=zh hB;clear hB;have H : ((Fu.f s0_0 s0_1 s0_2 a1).bind fun bt161=>(some ((bt161.1 == (wrap64 (a1 - 1))),bt161.2.1,bt161.2.2)))=some (r1,r2,r3):=h;clear h;replace H:=zT.mp H;obtain ⟨⟨t161,t162,t163⟩,A30,H⟩:=H;have A3:=zh A30;clear A30;simp only [Option.some.injEq,Prod.mk.injEq] at H;obtain ⟨rfl,rfl,rfl⟩:=H
 go_enter Try.func45,Try.ntmps45
 go_wp2_with (first|((with_reducible refine zJ (f:=44) rfl ?_);refine yj (some 7) rfl rfl Try.func44 jA rfl #[.pointer (some ⟨g,0,none⟩),.int .i64 a1] rfl jF ?_;(with_reducible refine (Fu.calls  g s0_0 s0_1 s0_2 a1 t161 t162 t163 w0 _ ?side1 ?side2 A3.out).mono ?_);(case side1=>repeat (with_reducible first|exact HI0.out|apply IsS71.alloc|apply IsS71.drewN|apply IsS71.drew|apply IsS71.set_1|apply IsS71.set_2));(case side2=>repeat (with_reducible first|exact HB.out|apply za|apply zb|apply zc|refine zd ?_ (IsS71.ge HI0.out)));rintro e w4 ⟨rfl,hi,hb,hk⟩;refine ⟨_,rfl,?_⟩;replace HK:=zh (KeepBut.trans jR hk (.inl rfl));replace HB:=zh (hb);replace HI0:=zh (hi);(try clear hb);(try clear hb2);(try clear hk);(try clear hi)))
 go_ret
 exact ⟨jG,jf,jg,jR⟩

end Go.Proofs.Ytgifonogfgpjdaa.Q
end
section
namespace Go.Proofs.Ytgifonogfgpjdaa.Q
open Go.RowKit Go.Proofs.YtgifonogfgpjdaaW.PrintWords Go.Proofs.YtgifonogfgpjdaaW.PrintLast Go.Proofs.YtgifonogfgpjdaaW.PrintMore
attribute [local go_sem] max2_int min2_int max_two min_two max_three min_three max_four min_four max2_str min2_str str_geq str_gtr str_leq
set_option linter.unusedVariables false
set_option linter.unusedSimpArgs false
attribute [local go_sem high] eqA28
theorem Fh.three (w : World) (o0 o1 o2 : Obj) : (((w.alloc o0).alloc o1).alloc o2).heap[w.heap.size]? = some o0∧(((w.alloc o0).alloc o1).alloc o2).heap[w.heap.size+1]? = some o1∧(((w.alloc o0).alloc o1).alloc o2).heap[w.heap.size+1+1]? = some o2∧Below w.heap.size w (((w.alloc o0).alloc o1).alloc o2):=by
 refine ⟨zg (zg (blk_new w _) _) _,zg ?_ _,?_,za (za (za (Below.refl _ _) _) _) _⟩
 ·
  have:=blk_new (w.alloc o0) o1
  simpa using this
 have:=blk_new ((w.alloc o0).alloc o1) o2
 simpa using this
theorem Fh.at_F {w : World} {ok : Nat→Prop} {A : Option Addr} {n : Nat} {xs : List S60} (h : Kd.F k60 w ok A n xs) (i : Int) (h0 : 0≤i) (h1 : i<n) : ∃ ad A1 c1,A=some ad∧w.cell? ⟨(ad.add (i.toNat*2)).block,(ad.add (i.toNat*2)).off+1,none⟩=some (.slice A1 (rd_T60 xs i).f1.length c1)∧(rd_T60 xs i).f1.length≤c1∧Kd.F k28 w ok A1 (rd_T60 xs i).f1.length (rd_T60 xs i).f1:=by
 obtain ⟨ad,c,e,_,hK,hc0,_⟩:=Kd.F_get h z60 i h0 h1;have hc : ∀ j u,c[j]? = some u→w.cell? (ad.add (i.toNat*2+j))=some u:=hc0;obtain ⟨A1,c1,rfl,l1,g1⟩:=k60_openF hK;exact ⟨ad,A1,c1,e,jB3,l1,g1⟩
theorem Fh.w_next (i : Nat) (h : i≤4611686018427387904) : wrap64 ((i : Int)+1)=((i+1 : Nat) : Int):=by unfold wrap64;omega
theorem Fh.K_M {w w' : World} {base : Nat} {ok : Nat→Prop} (x : S28) (cs : List Value) (h : k28.K w' x cs) : k28.M w base ok x cs:=by rw [k28_open h];exact k28_mkM _ _ _ _
def Fh.at : List S28→ByteArray→Int→Nat→Option Nat
 | [],_,_,_=>none
 | x :: xs,key,id,i=>if (!(x.f0.toList == key.toList) || (!(x.f1 == id)))=true then Fh.at xs key id (i+1) else some i
def Fh.f (k : Nat) (l0_0 : List (S60)) (a0_1 : Int) (a1_0 : ByteArray) (a1_1 : Int) : Option ((List (S60))×Int×Int):=(Fb.f k l0_0 a0_1 a1_0 a1_1).bind fun pl=>(if 0≤pl then (if pl<(l0_0.length : Int) then (if l0_0.length≤4611686018427387904∧((rd_T60 l0_0 pl).f1).length≤1000000 then (match Fh.at ((rd_T60 l0_0 pl).f1) a1_0 a1_1 0 with|none=>some (l0_0,a0_1,5)|some i=>((Fc.f k l0_0 a0_1).bind fun t=>(if pl<(t.1.length : Int)∧t.1.length≤1000000 then (if ((rd_T60 l0_0 pl).f1).length=1∧1<t.1.length then some (((t.1.set pl.toNat (⟨(rd_T60 t.1 pl).f0,((rd_T60 l0_0 pl).f1).take i++((rd_T60 l0_0 pl).f1).drop (i+1)⟩ : S60)).take pl.toNat)++((t.1.set pl.toNat (⟨(rd_T60 t.1 pl).f0,((rd_T60 l0_0 pl).f1).take i++((rd_T60 l0_0 pl).f1).drop (i+1)⟩ : S60)).drop (pl.toNat+1)),t.2,0) else some (t.1.set pl.toNat (⟨(rd_T60 t.1 pl).f0,((rd_T60 l0_0 pl).f1).take i++((rd_T60 l0_0 pl).f1).drop (i+1)⟩ : S60),t.2,0)) else none))) else none) else none) else none)
theorem Fh.mono : ∀ a0 a1 a2 a3 k,LeO (Fh.f k a0 a1 a2 a3) (Fh.f (k+1) a0 a1 a2 a3):=by
 intro a0 a1 a2 a3 k;unfold Fh.f;refine zO (Fb.mono _ _ _ _ _) (fun pl=>zP (zP (zP ?_ (zN _)) (zN _)) (zN _))
 cases Fh.at ((rd_T60 a0 pl).f1) a2 a3 0 with
 | none=>exact zQ _
 | some i=>exact zO (Fc.mono _ _ _) (fun _=>zQ _)
set_option maxHeartbeats 16000000 in
set_option maxRecDepth 100000 in
theorem Fh.calls (k : Nat) (P0_0_ : Nat→Prop) (A0_0 : Option Addr) (c0_0 : Nat) (l0_0 : List (S60)) (a0_1 : Int) (a1_0 : ByteArray) (a1_1 : Int) (r1 : List (S60)) (r2 : Int) (r3 : Int) (w : World) (hs0_0 : Kd.V k60 60 w w.heap.size (fun k_=>P0_0_ k_) (.slice A0_0 l0_0.length c0_0) l0_0) (h : Fh.f k l0_0 a0_1 a1_0 a1_1=some (r1,r2,r3)) :
  Calls Try.prog 46 #[.agg #[.slice A0_0 l0_0.length c0_0,.int .i64 a0_1],.agg #[.string a1_0,.int .i64 a1_1]] w fun e w' => ∃ v0_ : Value,e = .returned (.tuple #[.agg #[v0_,.int .i64 r2],.int .i64 r3])∧Kd.V k60 60 w' w.heap.size (fun k_=>(P0_0_ k_∨w.heap.size≤k_)) v0_ r1∧Below w.heap.size w w':=by
 have hu25:=Try.underlying25;have hu28:=Try.underlying28;have mixed : Try.prog.follows Departure.mixedOrders=true:=by rfl
 have late : Try.prog.follows Departure.lateStores=true:=by rfl
 unfold Fh.f at h;obtain ⟨pl,hK,h⟩:=zT.mp h
 by_cases hK0 : 0≤pl
 case neg=>rw [if_neg hK0] at h;cases h
 rw [if_pos hK0] at h
 by_cases hK1 : pl<(l0_0.length : Int)
 case neg=>rw [if_neg hK1] at h;cases h
 rw [if_pos hK1] at h;obtain ⟨l,hl⟩ : ∃ l,l=(rd_T60 l0_0 pl).f1:=⟨_,rfl⟩;rw [← hl] at h
 by_cases hlm : l0_0.length≤4611686018427387904∧l.length≤1000000
 case neg=>rw [if_neg hlm] at h;cases h
 rw [if_pos hlm] at h;obtain ⟨-,hc0_0,hF0⟩:=Kd.V_at hs0_0;obtain ⟨ad,Al,cl,rfl,hxl,hlc,hFl⟩:=Fh.at_F hF0 pl hK0 hK1;rw [← hl] at hxl hlc hFl;have HF0:=zh hF0;have HFl:=zh hFl;have HXL:=zh hxl;have HLC:=zh hlc;have HLM:=zh hlm;have HL:=zh hl;obtain ⟨V,hV⟩ : ∃ V,V=((w.alloc (.cells #[.slice (some ad) l0_0.length c0_0,.int .i64 a0_1] 25)).alloc (.cells #[.string a1_0,.int .i64 a1_1] 28)).alloc (.cells #[.slice none 0 0,.int .i64 0] 25):=⟨_,rfl⟩;obtain ⟨h0,h1,h2,hBV⟩:=Fh.three w (.cells #[.slice (some ad) l0_0.length c0_0,.int .i64 a0_1] 25) (.cells #[.string a1_0,.int .i64 a1_1] 28) (.cells #[.slice none 0 0,.int .i64 0] 25);rw [← hV] at h0 h1 h2 hBV;obtain ⟨g0,hg0⟩ : ∃ g,g=w.heap.size:=⟨_,rfl⟩;rw [← hg0] at h0 h1 h2;obtain ⟨g1,hg1⟩ : ∃ g,g=g0+1:=⟨_,rfl⟩;rw [← hg1] at h1 h2;obtain ⟨g2,hg2⟩ : ∃ g,g=g1+1:=⟨_,rfl⟩;rw [← hg2] at h2;have hb0 : w.heap.size≤g0:=Nat.le_of_eq hg0.symm;have hb1 : w.heap.size≤g1:=by rw [hg1,hg0];exact Nat.le_add_right _ _
 have hb2 : w.heap.size≤g2:=by rw [hg2,hg1,hg0,Nat.add_assoc];exact Nat.le_add_right _ _
 have n02 : g0≠g2:=by omega
 have n10 : g1≠g0:=by omega
 have HB0:=zh hBV;have H0_0:=zh h0;have H1_0:=zh h1;have H2_0:=zh h2;have GB0:=zh hb0;have GB1:=zh hb1;have GB2:=zh hb2;have N02:=zh n02;have N10:=zh n10;have k0:=(zz h0 0).trans (show _=some (.slice (some ad) l0_0.length c0_0) from rfl);have k1:=(zz h0 1).trans (show _=some (.int .i64 a0_1) from rfl);have k2:=(zz h1 0).trans (show _=some (.string a1_0) from rfl);have k3:=(zz h1 1).trans (show _=some (.int .i64 a1_1) from rfl);clear h0 h1 h2 hBV hF0 hFl hxl hlc hlm hb0 hb1 hb2 n02 n10 hs0_0
 go_enter Try.func46,Try.ntmps46
 go_wp2_with fail
 rw [← hV];simp only [← hg0];simp only [← hg1];simp only [← hg2];clear hV hg0 hg1 hg2
 go_at_call 39
 refine (Fb.calls k (some ad) c0_0 l0_0 a0_1 a1_0 a1_1 pl V (Kd.F_now (Kd.F_below HF0.out HB0.out)) hc0_0 hK).mono ?_;rintro e w1 ⟨rfl,hb_⟩;have HB1:=zh (zC HB0.out hb_);have H0_1:=zh (zD H0_0.out hb_);have H1_1:=zh (zD H1_0.out hb_);have H2_1:=zh (zD H2_0.out hb_);clear k0 k1 k2 k3 hb_ hK HB0 H0_0 H1_0 H2_0;have k0:=(zz H0_1.out 0).trans (show _=some (.slice (some ad) l0_0.length c0_0) from rfl);have kx:=(HB1.out.cell (zl w _ HXL.out)).trans HXL.out;have hp0:=eq_true hK0;have hp1:=eq_true hK1;clear hl
 go_wp2_with fail
 obtain ⟨res,hres⟩ : ∃ res,res=Fh.at l a1_0 a1_1 0:=⟨_,rfl⟩;rw [← hres] at h;have HH:=zh h;have HR0:=zh hres.symm;clear k0 kx h hres
 go_loopg [8] l.length (fun kq v8 w' => ∃ (i : Nat),v8 = .int .i64 (i : Int)∧Aside0 (kq+i=l.length)∧Aside0 (Fh.at (l.drop i) a1_0 a1_1 i=res)∧Aside0 (w'.heap[g0]? = some (.cells #[.slice (some ad) l0_0.length c0_0,.int .i64 a0_1] 25 (0,0)))∧Aside0 (w'.heap[g1]? = some (.cells #[.string a1_0,.int .i64 a1_1] 28 (0,0)))∧Aside0 (w'.heap[g2]? = some (.cells #[.slice none 0 0,.int .i64 0] 25 (0,0)))∧Aside0 (Below w.heap.size w w'))
 case atStart=>exact ⟨0,rfl,⟨jE⟩,⟨by rw [List.drop_zero];exact HR0.out⟩,H0_1,H1_1,H2_1,HB1⟩
 case round =>
  clear H0_1 H1_1 H2_1 HB1 HR0;obtain ⟨i,rfl,HI,HA,H0_2,H1_2,H2_2,HB2⟩:=hrel
  by_cases hil : i<l.length
  ·
   have c3 : decide ((i : Int)<(l.length : Int))=true:=decide_eq_true (Int.ofNat_lt.2 hil)
   have hi0 : (0≤(i : Int))=True:=eq_true (Int.natCast_nonneg i);have hi1 : ((i : Int)<(l.length : Int))=True:=eq_true (Int.ofNat_lt.2 hil);have hwi:=Fh.w_next i (Nat.le_trans (Nat.le_of_lt hil) (Nat.le_trans HLM.out.2 jB));have hwi2 : IntKind.i64.wrap ((i : Int)+1)=((i+1 : Nat) : Int):=(zG _).trans hwi;obtain ⟨kq,rfl⟩ : ∃ q,gk=q+1:=⟨gk - 1,by have:=HI.out;omega⟩;obtain ⟨ae,hAe,hx0_,hx1_⟩:=at_T28 (Kd.F_now HFl.out) (i : Int) (Int.natCast_nonneg _) (Int.ofNat_lt.2 hil)
   cases hAe
   rw [Int.toNat_natCast] at hx0_ hx1_;have hx0:=(HB2.out.cell (zl w _ hx0_)).trans hx0_;have hx1:=(HB2.out.cell (zl w _ hx1_)).trans hx1_;have hA:=HA.out;rw [List.drop_eq_getElem_cons hil] at hA;simp only [Fh.at] at hA
   have er : l[i]=rd_T28 l (i : Int):=by
    unfold rd_T28;rw [List.getD_eq_getElem?_getD,Int.toNat_natCast,List.getElem?_eq_getElem hil];rfl
   rw [er] at hA;have HA2:=zh hA;clear hA er HA hx0_ hx1_;have k2:=(zz H1_2.out 0).trans (show _=some (.string a1_0) from rfl);have k3:=(zz H1_2.out 1).trans (show _=some (.int .i64 a1_1) from rfl)
   go_wp2_with fail
   have HB3:=zh (zc HB2.out);have H0_3:=zh (zf H0_2.out);have H1_3:=zh (zf H1_2.out);have H2_3:=zh (zf H2_2.out);refine start_ (n:=6) (S:=fun w' => w'.cell? (ae.add (i*2))=some (.string (rd_T28 l (i : Int)).f0)∧w'.cell? ⟨(ae.add (i*2)).block,(ae.add (i*2)).off+1,none⟩=some (.int .i64 (rd_T28 l (i : Int)).f1)∧w'.cell? ⟨g1,0,none⟩=some (.string a1_0)∧w'.cell? ⟨g1,1,none⟩=some (.int .i64 a1_1)) (ds:=[]) (bm_ 0 6) jA rfl rfl ⟨hx0,hx1,k2,k3⟩ (fun hHeld=>?_);generalize wr.drew=w3 at HB3 H0_3 H1_3 H2_3 hHeld ⊢;clear hx0 hx1 k2 k3 HB2 H0_2 H1_2 H2_2;refine pure_ (i:=0) (N:=some 24) (v:=?_) (a':=?_) (bm_ 1 6) rfl rfl jA (fun _ _ _ h=>h) (Or.inl ⟨by rfl,?_⟩) ?_ ?_;rotate_left;exact jb;rotate_left;exact jc
   refine pure_ (i:=1) (N:=some 25) (v:=?_) (a':=?_) (bm_ 2 6) rfl rfl jA (fun _ _ _ h=>h) (Or.inl ⟨by rfl,?_⟩) ?_ ?_;rotate_left;exact jb;rotate_left;exact jc
   refine pure_ (i:=2) (N:=some 26) (v:=?_) (a':=?_) (bm_ 3 6) rfl rfl jA (fun _ _ _ h=>h) (Or.inl ⟨by rfl,?_⟩) ?_ ?_;rotate_left;exact jb;rotate_left;exact jc
   refine take_ (i:=3) (N:=some 27) (v:=?_) (a':=?_) (bm_ 4 6) rfl rfl jA (fun _ _ _ h=>h) (Or.inl ⟨by rfl,?_⟩) hHeld ?_ ?_;rotate_left
   ·
    rintro w' ⟨s0,s1,s2,s3⟩
    go_simp
    with_reducible rfl
   rotate_left
   exact jc
   refine take_ (i:=4) (N:=some 28) (v:=?_) (a':=?_) (bm_ 5 6) rfl rfl jA (fun _ _ _ h=>h) (Or.inl ⟨by rfl,?_⟩) hHeld ?_ ?_;rotate_left
   ·
    rintro w' ⟨s0,s1,s2,s3⟩
    go_simp
    with_reducible rfl
   rotate_left
   exact jc
   refine pure_ (i:=5) (N:=some 29) (v:=?_) (a':=?_) (bm_ 6 6) rfl rfl jA (fun _ _ _ h=>h) (Or.inl ⟨by rfl,?_⟩) ?_ ?_;rotate_left;exact jb;rotate_left;exact jc
   refine done_ jA ?_;obtain ⟨bA,hbA⟩ : ∃ b,b=(!((rd_T28 l (i : Int)).f0.toList == a1_0.toList) || (!((rd_T28 l (i : Int)).f1 == a1_1))):=⟨_,rfl⟩;rw [← hbA];have hA3:=HA2.out;rw [← hbA] at hA3;clear hbA HA2
   cases bA with
   | true =>
    have HA3 : Fh.at (l.drop (i+1)) a1_0 a1_1 (i+1)=res:=hA3;clear hA3
    go_wp2_with fail
    go_roundg kq
    case measure=>exact Nat.lt_succ_self _
    case rel=>exact ⟨i+1,by first|rfl|rw [hwi],⟨by have:=HI.out;omega⟩,⟨HA3⟩,H0_3,H1_3,H2_3,HB3⟩
   | false =>
    replace hA3 : some i=res:=hA3;subst hA3;have h:=HH.out;simp only at h;clear HH;obtain ⟨⟨T1,n1⟩,hT,h⟩:=zT.mp h;simp only at h
    by_cases hTb : pl<(T1.length : Int)∧T1.length≤1000000
    case neg=>rw [if_neg hTb] at h;cases h
    rw [if_pos hTb] at h;obtain ⟨hT1,hT2⟩:=hTb;have HH:=zh h;clear h;have k0:=(zz H0_3.out 0).trans (show _=some (.slice (some ad) l0_0.length c0_0) from rfl);have k1:=(zz H0_3.out 1).trans (show _=some (.int .i64 a0_1) from rfl);have f0:=zA H0_3.out 0;have f1:=zA H0_3.out 1
    go_wp2_with fail
    go_at_call 37
    refine (Fc.calls k (some ad) c0_0 l0_0 a0_1 T1 n1 w3 (Kd.F_now (Kd.F_below HF0.out HB3.out)) hc0_0 hT).mono ?_;rintro e w4 ⟨v4,rfl,hS4,hb_⟩;have HB4:=zh (zC HB3.out hb_);have H0_4:=zh (zD H0_3.out hb_);have H2_4:=zh (zD H2_3.out hb_);have L0 : Aside0 (g0<w3.heap.size):=⟨yi H0_3.out⟩;have L2 : Aside0 (g2<w3.heap.size):=⟨yi H2_3.out⟩;obtain ⟨g,cg,rfl,gb,gl,cg_,hg_⟩:=Kd.S_form hS4 jE;have HN4:=zh (Kd.N_mono (Kd.S_N (Kd.S_lower (Kd.S_bound hS4) HB3.out.size)) (ok':=fun k_=>w3.heap.size≤k_) (fun _ hk=>hk.2.1));have GG:=zh gb;clear k0 k1 f0 f1 hS4 hb_ hT HB3 H0_3 H1_3 H2_3 hg_;have k0:=zz H0_4.out 0;have k1:=zz H0_4.out 1;have f0:=zA H0_4.out 0;have f1:=zA H0_4.out 1
    go_wp2_with fail
    have HB5 : Aside0 (Below w.heap.size w ((w4.setCell ⟨g0,0,none⟩ (.slice (some ⟨g,0,none⟩) T1.length cg)).setCell ⟨g0,1,none⟩ (.int .i64 n1))):=⟨zd (zd HB4.out GB0.out) GB0.out⟩;have H0_5 : Aside0 (((w4.setCell ⟨g0,0,none⟩ (.slice (some ⟨g,0,none⟩) T1.length cg)).setCell ⟨g0,1,none⟩ (.int .i64 n1)).heap[g0]? = some (.cells #[.slice (some ⟨g,0,none⟩) T1.length cg,.int .i64 n1] 25 (0,0))):=⟨blk_set (blk_set H0_4.out 0 _) 1 _⟩;have H2_5 : Aside0 (((w4.setCell ⟨g0,0,none⟩ (.slice (some ⟨g,0,none⟩) T1.length cg)).setCell ⟨g0,1,none⟩ (.int .i64 n1)).heap[g2]? = some (.cells #[.slice none 0 0,.int .i64 0] 25 (0,0))):=⟨(Below.heap_setCell _ ⟨g0,1,none⟩ _ g2 (Ne.symm N02.out)).trans ((Below.heap_setCell _ ⟨g0,0,none⟩ _ g2 (Ne.symm N02.out)).trans H2_4.out)⟩;have HN5 : Aside0 (Kd.N k60 60 ((w4.setCell ⟨g0,0,none⟩ (.slice (some ⟨g,0,none⟩) T1.length cg)).setCell ⟨g0,1,none⟩ (.int .i64 n1)) w.heap.size (fun k_=>w3.heap.size≤k_) (.slice (some ⟨g,0,none⟩) T1.length cg) T1):=⟨Kd.N_far (p:=⟨g0,1,none⟩) (Kd.N_far (p:=⟨g0,0,none⟩) HN4.out (fun _ hk e9=>by rw [e9] at hk;exact Nat.lt_irrefl _ (Nat.lt_of_lt_of_le L0.out hk)) _) (fun _ hk e9=>by rw [e9] at hk;exact Nat.lt_irrefl _ (Nat.lt_of_lt_of_le L0.out hk)) _⟩;have L35 : Aside0 (w3.heap.size≤((w4.setCell ⟨g0,0,none⟩ (.slice (some ⟨g,0,none⟩) T1.length cg)).setCell ⟨g0,1,none⟩ (.int .i64 n1)).heap.size):=⟨by simp;exact Nat.le_trans gb (Nat.le_of_lt gl)⟩;have GL5 : Aside0 (g<((w4.setCell ⟨g0,0,none⟩ (.slice (some ⟨g,0,none⟩) T1.length cg)).setCell ⟨g0,1,none⟩ (.int .i64 n1)).heap.size):=⟨by simpa using gl⟩;clear k0 k1 f0 f1 HB4 H0_4 H2_4 HN4 gb gl;generalize (w4.setCell ⟨g0,0,none⟩ (.slice (some ⟨g,0,none⟩) T1.length cg)).setCell ⟨g0,1,none⟩ (.int .i64 n1)=w5 at *;have HB6:=zh (zc HB5.out);have H0_6:=zh (zf H0_5.out);have H2_6:=zh (zf H2_5.out);have HN6:=zh (Kd.N_drew HN5.out);have L36 : Aside0 (w3.heap.size≤w5.drew.heap.size):=L35;have GL6 : Aside0 (g<w5.drew.heap.size):=GL5;have hTp1:=eq_true hT1;have hKp0:=eq_true hK0;have hi4 : (0 : Int)≤(i : Int):=Int.natCast_nonneg i;have hi5 : (i : Int)≤(l.length : Int):=Int.ofNat_le.2 (Nat.le_of_lt hil);obtain ⟨j,hj⟩ : ∃ j : Nat,j=i+1:=⟨_,rfl⟩;have hjw : IntKind.i64.wrap ((i : Int)+1)=(j : Int):=by rw [hj];exact hwi2
    have hjl : j≤l.length:=by rw [hj];exact hil
    have hi6 : (0 : Int)≤(j : Int):=Int.natCast_nonneg _;have hi7 : (j : Int)≤(l.length : Int):=Int.ofNat_le.2 hjl;have HJ:=zh hj;have HJL:=zh hjl;clear hwi hwi2 hj hjl;obtain ⟨i0_,hi0_,_,hsz_,_⟩:=info_parts info28;have hcut1:=cut_to (P:=Try.prog) 33 28 .i64 Try.underlying33 hi0_ (some ae) l.length cl (i : Int) hi4 hi5 HLC.out;have hcut2:=cut_from (P:=Try.prog) 33 28 .i64 Try.underlying33 hi0_ 2 hsz_ (some ae) l.length cl (j : Int) hi6 hi7;rw [Int.toNat_natCast] at hcut1 hcut2;have hC1:=Kd.F_imp HFl.out (fun _ hC=>Kd.C_take (m:=i) hC (Nat.le_of_lt hil));have hC2:=Kd.F_imp HFl.out (fun _ hC=>Kd.C_drop (c:=cl) (m:=j) hC HJL.out HLC.out);rw [zx,Nat.min_eq_left (Nat.le_of_lt hil)] at hC1;rw [zw] at hC2;obtain ⟨A2,hA2⟩ : ∃ A2,A2=(if cl=j then (some ae) else (some ae : Option Addr).map (·.add (j*2))):=⟨_,rfl⟩;rw [← hA2] at hcut2;replace hC2 : Kd.F k28 w (fun k_=>P0_0_ k_) A2 (l.length - j) (l.drop j):=by rw [hA2];exact hC2
    have HC1:=zh hC1;have HC2:=zh hC2;have HT1:=zh hT1;have HT2:=zh hT2;clear hC1 hC2 hA2 hi0_ hsz_ hT1 hT2
    go_wp2_with fail
    refine start_ (n:=16) (S:=fun w' => w'.cell? ⟨g0,0,none⟩=some (.slice (some ⟨g,0,none⟩) T1.length cg)) (ds:=[15]) (bm_ 0 16) jA rfl rfl ((zz H0_6.out 0).trans rfl) (fun hHeld=>?_);generalize w5.drew=w7 at HB6 H0_6 H2_6 HN6 L36 GL6 hHeld ⊢;have HB7:=HB6;have H0_7:=H0_6;have H2_7:=H2_6;have HN7:=HN6;clear HB5 H0_5 H2_5 HN5 L35 GL5 HB6 H0_6 H2_6 HN6;refine pure_ (i:=0) (N:=some 32) (v:=?_) (a':=?_) (bm_ 1 16) rfl rfl jA (fun _ _ _ h=>h) (Or.inl ⟨by rfl,?_⟩) ?_ ?_;rotate_left;exact jb;rotate_left;exact jc
    refine pure_ (i:=2) (N:=some 34) (v:=?_) (a':=?_) #[true,false,true,false,false,false,false,false,false,false,false,false,false,false,false,false] rfl rfl jA (fun _ _ _ h=>h) (Or.inl ⟨by rfl,?_⟩) ?_ ?_;rotate_left;exact jb;rotate_left;exact jc
    refine pure_ (i:=4) (N:=some 36) (v:=?_) (a':=?_) #[true,false,true,false,true,false,false,false,false,false,false,false,false,false,false,false] rfl rfl jA (fun _ _ _ h=>h) (Or.inl ⟨by rfl,?_⟩) ?_ ?_;rotate_left;exact jb;rotate_left;exact jc
    refine pure_ (i:=5) (N:=some 37) (v:=?_) (a':=?_) #[true,false,true,false,true,true,false,false,false,false,false,false,false,false,false,false] rfl rfl jA (fun _ _ _ h=>h) (Or.inl ⟨by rfl,?_⟩) ?_ ?_;rotate_left;exact jb;rotate_left;exact jc
    refine pure_ (i:=6) (N:=some 38) (v:=?_) (a':=?_) #[true,false,true,false,true,true,true,false,false,false,false,false,false,false,false,false] rfl rfl jA (fun _ _ _ h=>h) (Or.inl ⟨by rfl,?_⟩) ?_ ?_;rotate_left;exact jb;rotate_left;exact jc
    refine pure_ (i:=8) (N:=some 40) (v:=?_) (a':=?_) #[true,false,true,false,true,true,true,false,true,false,false,false,false,false,false,false] rfl rfl jA (fun _ _ _ h=>h) (Or.inl ⟨by rfl,?_⟩) ?_ ?_;rotate_left;exact jb;rotate_left;exact jc
    refine pure_ (i:=9) (N:=some 41) (v:=?_) (a':=?_) #[true,false,true,false,true,true,true,false,true,true,false,false,false,false,false,false] rfl rfl jA (fun _ _ _ h=>h) (Or.inl ⟨by rfl,?_⟩) ?_ ?_;rotate_left;exact jb;rotate_left;exact jc
    refine pure_ (i:=10) (N:=some 42) (v:=?_) (a':=?_) #[true,false,true,false,true,true,true,false,true,true,true,false,false,false,false,false] rfl rfl jA (fun _ _ _ h=>h) (Or.inl ⟨by rfl,?_⟩) ?_ ?_;rotate_left;exact jb;rotate_left;exact jc
    refine pure_ (i:=11) (N:=some 43) (v:=?_) (a':=?_) #[true,false,true,false,true,true,true,false,true,true,true,true,false,false,false,false] rfl rfl jA (fun _ _ _ h=>h) (Or.inl ⟨by rfl,?_⟩) ?_ ?_;rotate_left;exact jb;rotate_left;exact jc
    refine take_ (i:=1) (N:=some 33) (v:=?_) (a':=?_) #[true,true,true,false,true,true,true,false,true,true,true,true,false,false,false,false] rfl rfl jA (fun _ _ _ h=>h) (Or.inl ⟨by rfl,?_⟩) hHeld ?_ ?_;rotate_left
    ·
     intro w' s0
     go_simp
     with_reducible rfl
    rotate_left
    exact jc
    refine one_ (i:=3) (N:=some 35) #[true,true,true,true,true,true,true,false,true,true,true,true,false,false,false,false] rfl rfl jA jB (fun K hK=>?_);refine Kd.R_lit_step k28 _ 28 ?hg (N:=35) ?hd (xs:=([] : List (S28))) (inner:=[]) (ok:=fun _=>True) (okp:=fun _=>True) ?hr ?hp (fun _ hk=>hk) trivial (Below.refl _ _) (ye _) (by simp) ?_;(case hd=>rfl);(case hg=>rfl);(case hr=>go_simp <;> rfl);(case hp=>exact (Reps.none _ _));intro va wa hRa hba hga_ hna_;clear hga_ hna_;refine hK.out _ _ ((zz (zD H0_7.out hba) 0).trans rfl) (fun hHeld=>?_);clear hK K;refine norm_ (a':=?_) ?_ ?_;rotate_left
    ·
     show Act.put _ (some 35) _=_
     simp only [Act.put,zi,zj,zk,zG,zH]
     rfl
    refine one_ (i:=7) (N:=some 39) (bm_ 12 16) rfl rfl jA jB (fun K hK=>?_);refine Kd.R_append_rows_step k28 (w0:=w7) w7.heap.size (by rfl) (.tmp 35) (.tmp 38) 33 28 (.agg #[(.string ⟨#[]⟩),(.int .i64 0)]) 24 rfl Try.underlying33 info28 rfl jB jB va ([] : List (S28)) (l.take i) (some ae) i cl (fun _=>True) (fun _=>False) (by rfl) (by rfl) hRa (Kd.F_now (Kd.F_below HC1.out (zC HB7.out hba))) (fun x cs h9=>Fh.K_M x cs h9) (fun _ h9=>h9.elim) (fun _ _=>trivial) hba hba.size (by have:=HLM.out.2;simp;omega) ?_;intro vb wb hRb hbb hg_ hat_;clear hg_ hat_;refine hK.out _ _ ((zz (zD H0_7.out hbb) 0).trans rfl) (fun hHeld=>?_);clear hK K;refine norm_ (a':=?_) ?_ ?_;rotate_left
    ·
     show Act.put _ (some 39) _=_
     simp only [Act.put,zi,zj,zk,zG,zH]
     rfl
    refine one_ (i:=12) (N:=some 44) (bm_ 13 16) rfl rfl jA jB (fun K hK=>?_);refine Kd.R_append_rows_step k28 (w0:=w7) w7.heap.size (by rfl) (.tmp 39) (.tmp 43) 33 28 (.agg #[(.string ⟨#[]⟩),(.int .i64 0)]) 24 rfl Try.underlying33 info28 rfl jB jB vb ([]++l.take i) (l.drop j) A2 (l.length - j) (cl - j) (fun _=>True) (fun _=>False) (by rfl) (by rfl) hRb (Kd.F_now (Kd.F_below HC2.out (zC HB7.out hbb))) (fun x cs h9=>Fh.K_M x cs h9) (fun _ h9=>h9.elim) (fun _ _=>trivial) hbb hbb.size (by have:=HLM.out.2;simp;omega) ?_;intro vc wc hRc hbc hg_ hat_;clear hg_ hat_;obtain ⟨X,hX⟩ : ∃ X : List (S28),X=([]++l.take i)++l.drop j:=⟨_,rfl⟩;rw [← hX] at hRc;have HX:=zh hX;clear hX;obtain ⟨Ac,cc,rfl⟩:=yk hRc;have hce:=(zz (zD H0_7.out hbc) 0).trans (show _=some (.slice (some ⟨g,0,none⟩) T1.length cg) from rfl);obtain ⟨ce,hcl_,hFK_,hcc_,hfr_⟩:=Kd.N_elem (Kd.N_below HN7.out hbc) z60 pl hK0 HT1.out;obtain ⟨A9,c9,rfl,-,-⟩:=k60_openF hFK_;have q9 : wc.cell? ⟨g,pl.toNat*2+1,none⟩=some (.slice A9 (rd_T60 T1 pl).f1.length c9):=hcc_ 1 _ rfl;have f9 : wc.frozen? ⟨g,pl.toNat*2+1,none⟩=false:=hfr_ 1;refine hK.out _ _ (hce) (fun hHeld=>?_);clear hK K;refine norm_ (a':=?_) ?_ ?_;rotate_left
    ·
     show Act.put _ (some 44) _=_
     simp only [Act.put,zi,zj,zk,zG,zH]
     rfl
    refine pure_ (i:=13) (N:=some 45) (v:=?_) (a':=?_) (bm_ 14 16) rfl rfl jA (fun _ _ _ h=>h) (Or.inl ⟨by rfl,?_⟩) ?_ ?_;rotate_left;exact jb;rotate_left;exact jc
    refine pure_ (i:=14) (N:=some 46) (v:=?_) (a':=?_) (bm_ 15 16) rfl rfl jA (fun _ _ _ h=>h) (Or.inl ⟨by rfl,?_⟩) ?_ ?_;rotate_left;exact jb;rotate_left;exact jc
    refine last_ (i:=15) (N:=none) (bm_ 16 16) rfl rfl jA jB (fun K hK=>?_);refine skip_ (w1:=?_) (by rfl) rfl ?_ ?_;rotate_left
    ·
     go_simp
     rfl
    refine hK.out _ _ ?_;clear hK K;refine done_ jA ?_;have hFc : Kd.F k28 wc (fun k_=>w7.heap.size≤k_) Ac X.length X:=Kd.F_mono (Kd.R_F (Kd.R_bound hRc)) (fun _ hk=>hk.2.1)
    obtain ⟨hN8,hG8⟩ : Kd.N k60 60 (wc.setCell ⟨g,pl.toNat*2+1,none⟩ (.slice Ac X.length cc)) w.heap.size (fun k_=>w3.heap.size≤k_) (.slice (some ⟨g,0,none⟩) T1.length cg) (T1.set pl.toNat (⟨(rd_T60 T1 pl).f0,X⟩ : S60))∧wc.grownBy (wc.setCell ⟨g,pl.toNat*2+1,none⟩ (.slice Ac X.length cc)) (some g) :=
     Kd.N_seg (Kd.N_below HN7.out hbc) pl hK0 HT1.out (c:=[.int .i64 (rd_T60 T1 pl).f0,.slice A9 (rd_T60 T1 pl).f1.length c9]) (seg:=[.slice Ac X.length cc]) (j:=1) rfl hcc_ (show 1+1≤2 from by decide) (x':=(⟨(rd_T60 T1 pl).f0,X⟩ : S60)) (okp:=fun k_=>w7.heap.size≤k_) (k60_mkF wc _ (⟨(rd_T60 T1 pl).f0,X⟩ : S60) (yh hRc).2.1 hFc) (fun k_ hk=>⟨Nat.le_trans L36.out hk,fun e9=>by rw [e9] at hk;exact Nat.lt_irrefl _ (Nat.lt_of_lt_of_le GL6.out hk)⟩)
    have hgw : w.heap.size≤g:=Nat.le_trans GB0.out (Nat.le_trans (Nat.le_of_lt L0.out) GG.out);have g0g : g0≠g:=fun e9=>Nat.lt_irrefl _ (Nat.lt_of_lt_of_le L0.out (e9 ▸ GG.out));have g2g : g2≠g:=fun e9=>Nat.lt_irrefl _ (Nat.lt_of_lt_of_le L2.out (e9 ▸ GG.out));have HN8:=zh hN8;have HB8 : Aside0 (Below w.heap.size w (wc.setCell ⟨g,pl.toNat*2+1,none⟩ (.slice Ac X.length cc))):=⟨zd (zC HB7.out hbc) hgw⟩;have H0_8 : Aside0 ((wc.setCell ⟨g,pl.toNat*2+1,none⟩ (.slice Ac X.length cc)).heap[g0]? = some (.cells #[.slice (some ⟨g,0,none⟩) T1.length cg,.int .i64 n1] 25 (0,0))):=⟨(Below.heap_setCell _ ⟨g,_,none⟩ _ g0 g0g).trans (zD H0_7.out hbc)⟩;have H2_8 : Aside0 ((wc.setCell ⟨g,pl.toNat*2+1,none⟩ (.slice Ac X.length cc)).heap[g2]? = some (.cells #[.slice none 0 0,.int .i64 0] 25 (0,0))):=⟨(Below.heap_setCell _ ⟨g,_,none⟩ _ g2 g2g).trans (zD H2_7.out hbc)⟩;have L38 : Aside0 (w3.heap.size≤(wc.setCell ⟨g,pl.toNat*2+1,none⟩ (.slice Ac X.length cc)).heap.size):=⟨by simp;exact Nat.le_trans L36.out hbc.size⟩;clear hcut1 hcut2 hN8 hG8 hFc hRa hRb hRc hba hbb hbc hce hcl_ hFK_ hcc_ hfr_ q9 f9 HB7 H0_7 H2_7 HN7 g0g g2g hgw;generalize wc.setCell ⟨g,pl.toNat*2+1,none⟩ (.slice Ac X.length cc)=w8 at *;have h:=HH.out;have hXe : l.take i++l.drop (i+1)=X:=by rw [HX.out,List.nil_append,HJ.out]
    have q0:=(zz H0_8.out 0).trans (show _=some (.slice (some ⟨g,0,none⟩) T1.length cg) from rfl)
    by_cases hl1 : l.length=1∧1<T1.length
    ·
     rw [if_pos hl1,hXe] at h
     simp only [Option.some.injEq,Prod.mk.injEq] at h;obtain ⟨hr1,rfl,rfl⟩:=h;have HR1:=zh hr1;clear hr1;obtain ⟨hl1,hl2⟩:=hl1;have c5 : ((l.length : Int) == 1)=true:=ya.mpr jE;have c5n : (l.length == 1)=true:=ya.mpr hl1;have c6 : decide ((1 : Int)<(T1.length : Int))=true:=decide_eq_true jE;have c6n : decide (1<T1.length)=true:=decide_eq_true hl2;have HL1:=zh hl1;clear hl1 hl2 hXe
     go_wp2_with fail
     clear q0;obtain ⟨Y,hY⟩ : ∃ Y,Y=T1.set pl.toNat (⟨(rd_T60 T1 pl).f0,X⟩ : S60):=⟨_,rfl⟩;have hYl : Y.length=T1.length:=by rw [hY,List.length_set]
     have HN9:=zh (Kd.N_drew HN8.out);rw [← hY] at HN9;have HYL:=zh hYl;have HB9:=zh (zc HB8.out);have H0_9:=zh (zf H0_8.out);have H2_9:=zh (zf H2_8.out);have L39 : Aside0 (w3.heap.size≤w8.drew.heap.size):=L38;obtain ⟨Kn,rfl⟩ : ∃ Kn : Nat,pl=(Kn : Int):=⟨pl.toNat,(Int.toNat_of_nonneg hK0).symm⟩;have hKn : Kn<T1.length:=Int.ofNat_lt.1 HT1.out;have hKw:=Fh.w_next Kn (Nat.le_trans (Nat.le_of_lt hKn) (Nat.le_trans HT2.out jB));have hKw2 : IntKind.i64.wrap ((Kn : Int)+1)=((Kn+1 : Nat) : Int):=(zG _).trans hKw;have hi4 : (0 : Int)≤(Kn : Int):=Int.natCast_nonneg _;have hi5 : (Kn : Int)≤(T1.length : Int):=Int.ofNat_le.2 (Nat.le_of_lt hKn);obtain ⟨j2,hj2⟩ : ∃ j : Nat,j=Kn+1:=⟨_,rfl⟩;have hjw2 : IntKind.i64.wrap ((Kn : Int)+1)=(j2 : Int):=by rw [hj2];exact hKw2
     have hjl2 : j2≤T1.length:=by rw [hj2];exact hKn
     have hi6 : (0 : Int)≤(j2 : Int):=Int.natCast_nonneg _;have hi7 : (j2 : Int)≤(T1.length : Int):=Int.ofNat_le.2 hjl2;obtain ⟨i0_,hi0_,_,hsz_,_⟩:=info_parts info60;have hcgl : T1.length≤cg:=(Kd.N_reads' HN9.out).2.1;have hcut1:=cut_to (P:=Try.prog) 23 60 .i64 Try.underlying23 hi0_ (some ⟨g,0,none⟩) T1.length cg (Kn : Int) hi4 hi5 hcgl;have hcut2:=cut_from (P:=Try.prog) 23 60 .i64 Try.underlying23 hi0_ 2 hsz_ (some ⟨g,0,none⟩) T1.length cg (j2 : Int) hi6 hi7;rw [Int.toNat_natCast] at hcut1 hcut2;have hFY:=Kd.F_bound (Kd.N_F HN9.out);rw [← hYl] at hFY;have hC1:=Kd.F_imp hFY (fun _ hC=>Kd.C_take (m:=Kn) hC (by rw [hYl];exact Nat.le_of_lt hKn));have hC2:=Kd.F_imp hFY (fun _ hC=>Kd.C_drop (c:=cg) (m:=j2) hC jA5 (by rw [hYl];exact hcgl));rw [zx,Nat.min_eq_left (by rw [hYl];exact Nat.le_of_lt hKn)] at hC1;rw [zw,hYl] at hC2;obtain ⟨A2,hA2⟩ : ∃ A2,A2=(if cg=j2 then (some (⟨g,0,none⟩ : Addr)) else (some (⟨g,0,none⟩ : Addr)).map (·.add (j2*2))):=⟨_,rfl⟩;rw [← hA2] at hcut2;replace hC2 : Kd.F k60 w8.drew (fun k_=>w3.heap.size≤k_∧k_<w8.drew.heap.size) A2 (T1.length - j2) (Y.drop j2):=by rw [hA2];exact hC2
     have HJ2:=zh hj2;have HYR : Aside0 (Y.take Kn++Y.drop (Kn+1)=r1):=⟨by rw [hY];exact HR1.out⟩;clear HR1;have HC1:=zh hC1;have HC2:=zh hC2;clear hC1 hC2 hA2 hi0_ hsz_ hFY hcgl hY hYl hKw hKw2 hj2 hjl2 HN8 HN9;refine start_ (n:=14) (S:=fun w' => w'.cell? ⟨g0,0,none⟩=some (.slice (some ⟨g,0,none⟩) T1.length cg)) (ds:=[13]) (bm_ 0 14) jA rfl rfl ((zz H0_9.out 0).trans rfl) (fun hHeld=>?_);generalize w8.drew=w9 at HB9 H0_9 H2_9 L39 HC1 HC2 hHeld ⊢;refine pure_ (i:=1) (N:=some 57) (v:=?_) (a':=?_) #[false,true,false,false,false,false,false,false,false,false,false,false,false,false] rfl rfl jA (fun _ _ _ h=>h) (Or.inl ⟨by rfl,?_⟩) ?_ ?_;rotate_left;exact jb;rotate_left;exact jc
     refine pure_ (i:=3) (N:=some 59) (v:=?_) (a':=?_) #[false,true,false,true,false,false,false,false,false,false,false,false,false,false] rfl rfl jA (fun _ _ _ h=>h) (Or.inl ⟨by rfl,?_⟩) ?_ ?_;rotate_left;exact jb;rotate_left;exact jc
     refine pure_ (i:=6) (N:=some 62) (v:=?_) (a':=?_) #[false,true,false,true,false,false,true,false,false,false,false,false,false,false] rfl rfl jA (fun _ _ _ h=>h) (Or.inl ⟨by rfl,?_⟩) ?_ ?_;rotate_left;exact jb;rotate_left;exact jc
     refine pure_ (i:=8) (N:=some 64) (v:=?_) (a':=?_) #[false,true,false,true,false,false,true,false,true,false,false,false,false,false] rfl rfl jA (fun _ _ _ h=>h) (Or.inl ⟨by rfl,?_⟩) ?_ ?_;rotate_left;exact jb;rotate_left;exact jc
     refine pure_ (i:=9) (N:=some 65) (v:=?_) (a':=?_) #[false,true,false,true,false,false,true,false,true,true,false,false,false,false] rfl rfl jA (fun _ _ _ h=>h) (Or.inl ⟨by rfl,?_⟩) ?_ ?_;rotate_left;exact jb;rotate_left;exact jc
     refine take_ (i:=2) (N:=some 58) (v:=?_) (a':=?_) #[false,true,true,true,false,false,true,false,true,true,false,false,false,false] rfl rfl jA (fun _ _ _ h=>h) (Or.inl ⟨by rfl,?_⟩) hHeld ?_ ?_;rotate_left
     ·
      intro w' s0
      go_simp
      with_reducible rfl
     rotate_left
     exact jc
     refine pure_ (i:=4) (N:=some 60) (v:=?_) (a':=?_) #[false,true,true,true,true,false,true,false,true,true,false,false,false,false] rfl rfl jA (fun _ _ _ h=>h) (Or.inl ⟨by rfl,?_⟩) ?_ ?_;rotate_left;exact jb;rotate_left;exact jc
     refine take_ (i:=7) (N:=some 63) (v:=?_) (a':=?_) #[false,true,true,true,true,false,true,true,true,true,false,false,false,false] rfl rfl jA (fun _ _ _ h=>h) (Or.inl ⟨by rfl,?_⟩) hHeld ?_ ?_;rotate_left
     ·
      intro w' s0
      go_simp
      with_reducible rfl
     rotate_left
     exact jc
     refine pure_ (i:=10) (N:=some 66) (v:=?_) (a':=?_) #[false,true,true,true,true,false,true,true,true,true,true,false,false,false] rfl rfl jA (fun _ _ _ h=>h) (Or.inl ⟨by rfl,?_⟩) ?_ ?_;rotate_left;exact jb;rotate_left;exact jc
     refine one_ (i:=0) (N:=some 56) #[true,true,true,true,true,false,true,true,true,true,true,false,false,false] rfl rfl jA jB (fun K hK=>?_);refine Kd.N_lit_step k60 _ 60 ?hg (N':=56) ?hd (xs:=([] : List (S60))) (inner:=[]) (ok:=fun k_=>w3.heap.size≤k_) (okp:=fun k_=>w3.heap.size≤k_) ?hr ?hp (fun _ hk=>hk) L39.out (Below.refl w9.heap.size w9) (ye _) (by simp) ?_;(case hd=>rfl);(case hg=>rfl);(case hr=>go_simp <;> rfl);(case hp=>exact (Reps.none _ _));intro va wa hNa hba hga_ hna_;clear hga_ hna_;refine hK.out _ _ ((zz (zD H0_9.out hba) 0).trans rfl) (fun hHeld=>?_);clear hK K;refine norm_ (a':=?_) ?_ ?_;rotate_left
     ·
      show Act.put _ (some 56) _=_
      simp only [Act.put,zi,zj,zk,zG,zH]
      rfl
     refine one_ (i:=5) (N:=some 61) (bm_ 11 14) rfl rfl jA jB (fun K hK=>?_);refine Kd.N_append_rows_step k60 (w0:=w9) w9.heap.size (by rfl) (.tmp 56) (.tmp 60) 23 60 (.agg #[(.int .i64 0),(.slice none 0 0)]) 32 rfl Try.underlying23 info60 rfl jB jB va ([] : List (S60)) (Y.take Kn) (some ⟨g,0,none⟩) Kn cg (fun k_=>w3.heap.size≤k_) (fun k_=>w3.heap.size≤k_∧k_<w9.heap.size) (by rfl) (by rfl) hNa (Kd.F_below HC1.out hba) (fun k_ hk=>⟨hk.1,fun e9=>Nat.lt_irrefl _ (Nat.lt_of_lt_of_le hk.2 (Kd.N_base hNa k_ e9.symm))⟩) (fun _ hk=>Nat.le_trans L39.out (Nat.le_trans hba.size hk)) hba hba.size (by have:=HT2.out;have:=HYL.out;simp;omega) ?_;intro vb wb hNb hbb hg_ hat_;clear hg_ hat_;refine hK.out _ _ ((zz (zD H0_9.out hbb) 0).trans rfl) (fun hHeld=>?_);clear hK K;refine norm_ (a':=?_) ?_ ?_;rotate_left
     ·
      show Act.put _ (some 61) _=_
      simp only [Act.put,zi,zj,zk,zG,zH]
      rfl
     refine one_ (i:=11) (N:=some 67) (bm_ 12 14) rfl rfl jA jB (fun K hK=>?_);refine Kd.N_append_rows_step k60 (w0:=w9) w9.heap.size (by rfl) (.tmp 61) (.tmp 66) 23 60 (.agg #[(.int .i64 0),(.slice none 0 0)]) 32 rfl Try.underlying23 info60 rfl jB jB vb ([]++Y.take Kn) (Y.drop j2) A2 (T1.length - j2) (cg - j2) (fun k_=>w3.heap.size≤k_) (fun k_=>w3.heap.size≤k_∧k_<w9.heap.size) (by rfl) (by rfl) hNb (Kd.F_below HC2.out hbb) (fun k_ hk=>⟨hk.1,fun e9=>Nat.lt_irrefl _ (Nat.lt_of_lt_of_le hk.2 (Kd.N_base hNb k_ e9.symm))⟩) (fun _ hk=>Nat.le_trans L39.out (Nat.le_trans hbb.size hk)) hbb hbb.size (by have:=HT2.out;have:=HYL.out;simp;omega) ?_;intro vc wc hNc hbc hg_ hat_;clear hg_ hat_;obtain ⟨Z,hZ⟩ : ∃ Z : List (S60),Z=([]++Y.take Kn)++Y.drop j2:=⟨_,rfl⟩;rw [← hZ] at hNc;have HZ:=zh hZ;clear hZ;obtain ⟨Ac,cc,rfl⟩:=Kd.N_slice hNc;have hce:=(zz (zD H0_9.out hbc) 0).trans (show _=some (.slice (some ⟨g,0,none⟩) T1.length cg) from rfl);have f9:=zA (zD H0_9.out hbc) 0;refine hK.out _ _ (hce) (fun hHeld=>?_);clear hK K;refine norm_ (a':=?_) ?_ ?_;rotate_left
     ·
      show Act.put _ (some 67) _=_
      simp only [Act.put,zi,zj,zk,zG,zH]
      rfl
     refine pure_ (i:=12) (N:=some 68) (v:=?_) (a':=?_) (bm_ 13 14) rfl rfl jA (fun _ _ _ h=>h) (Or.inl ⟨by rfl,?_⟩) ?_ ?_;rotate_left;exact jb;rotate_left;exact jc
     refine last_ (i:=13) (N:=none) (bm_ 14 14) rfl rfl jA jB (fun K hK=>?_);refine skip_ (w1:=?_) (by rfl) rfl ?_ ?_;rotate_left
     ·
      go_simp
      rfl
     refine hK.out _ _ ?_;clear hK K;refine done_ jA ?_;have hZe : Y.take Kn++Y.drop (Kn+1)=Z:=by rw [HZ.out,List.nil_append,HJ2.out]
     obtain rfl : Z=r1:=hZe.symm.trans HYR.out;have H0_10 : Aside0 ((wc.setCell ⟨g0,0,none⟩ (.slice Ac Z.length cc)).heap[g0]? = some (.cells #[.slice Ac Z.length cc,.int .i64 n1] 25 (0,0))):=⟨blk_set (zD H0_9.out hbc) 0 _⟩;have H2_10 : Aside0 ((wc.setCell ⟨g0,0,none⟩ (.slice Ac Z.length cc)).heap[g2]? = some (.cells #[.slice none 0 0,.int .i64 0] 25 (0,0))):=⟨(Below.heap_setCell _ ⟨g0,_,none⟩ _ g2 (Ne.symm N02.out)).trans (zD H2_9.out hbc)⟩;have HB10 : Aside0 (Below w.heap.size w (wc.setCell ⟨g0,0,none⟩ (.slice Ac Z.length cc))):=⟨zd (zC HB9.out hbc) GB0.out⟩;have HV10 : Aside0 (Kd.V k60 60 (wc.setCell ⟨g0,0,none⟩ (.slice Ac Z.length cc)) w.heap.size (fun k_=>w3.heap.size≤k_) (.slice Ac Z.length cc) Z):=⟨Kd.V_far (p:=⟨g0,0,none⟩) (Kd.N_V hNc) (fun _ hk e9=>by rw [e9] at hk;exact Nat.lt_irrefl _ (Nat.lt_of_lt_of_le L0.out hk)) _⟩;have L310 : Aside0 (w3.heap.size≤w3.heap.size):=⟨ye _⟩;clear hcut1 hcut2 hZe hNa hNb hNc hba hbb hbc hce f9 HB9 H0_9 H2_9;generalize wc.setCell ⟨g0,0,none⟩ (.slice Ac Z.length cc)=w10 at *;have k0:=zz H0_10.out 0;have k1:=zz H0_10.out 1;have k2:=zz H2_10.out 0;have k3:=zz H2_10.out 1;have f0:=zA H2_10.out 0;have f1:=zA H2_10.out 1
     go_wp2_with fail
     refine bodyPost_ret (results_ct rfl _ _ g2 25 #[.slice Ac Z.length cc,.int .i64 n1] (0,0) _ rfl (blk_set (blk_set H2_10.out 0 (.slice Ac Z.length cc)) 1 (.int .i64 n1)) hu25 rfl jA) rfl ?_;exact ⟨_,rfl,Kd.V_mono (Kd.V_far (p:=⟨g2,1,none⟩) (Kd.V_far (p:=⟨g2,0,none⟩) HV10.out (fun _ hk e9=>by rw [e9] at hk;exact Nat.lt_irrefl _ (Nat.lt_of_lt_of_le L2.out hk)) _) (fun _ hk e9=>by rw [e9] at hk;exact Nat.lt_irrefl _ (Nat.lt_of_lt_of_le L2.out hk)) _) (fun _ hk => .inr (Nat.le_trans GB0.out (Nat.le_trans (Nat.le_of_lt L0.out) hk))),zd (zd HB10.out GB2.out) GB2.out⟩
    rw [if_neg hl1,hXe] at h;simp only [Option.some.injEq,Prod.mk.injEq] at h;obtain ⟨hY,rfl,rfl⟩:=h;have k0:=zz H0_8.out 0;have k1:=zz H0_8.out 1;have k2:=zz H2_8.out 0;have k3:=zz H2_8.out 1;have f0:=zA H2_8.out 0;have f1:=zA H2_8.out 1;have HV8:=zh (Kd.N_V (base':=w.heap.size) HN8.out);rw [hY] at HV8
    have hfin : ∀ W1,W1=(w8.setCell ⟨g2,0,none⟩ (.slice (some ⟨g,0,none⟩) T1.length cg)).setCell ⟨g2,1,none⟩ (.int .i64 n1)→Kd.V k60 60 W1 w.heap.size (fun k_=>(P0_0_ k_∨w.heap.size≤k_)) (.slice (some ⟨g,0,none⟩) T1.length cg) r1∧Below w.heap.size w W1:=fun W1 e9=>by
     rw [e9];exact ⟨Kd.V_mono (Kd.V_far (p:=⟨g2,1,none⟩) (Kd.V_far (p:=⟨g2,0,none⟩) HV8.out (fun _ hk e9=>by rw [e9] at hk;exact Nat.lt_irrefl _ (Nat.lt_of_lt_of_le L2.out hk)) _) (fun _ hk e9=>by rw [e9] at hk;exact Nat.lt_irrefl _ (Nat.lt_of_lt_of_le L2.out hk)) _) (fun _ hk => .inr (Nat.le_trans GB0.out (Nat.le_trans (Nat.le_of_lt L0.out) hk))),zd (zd HB8.out GB2.out) GB2.out⟩
    have HFIN:=zh hfin;clear hfin hY hXe
    by_cases hl3 : l.length=1
    ·
     have c5 : ((l.length : Int) == 1)=true:=ya.mpr jE
     have c5n : (l.length == 1)=true:=ya.mpr hl3;have c6 : decide ((1 : Int)<(T1.length : Int))=false:=decide_eq_false (fun h9=>hl1 ⟨hl3,jE⟩);have c6n : decide (1<T1.length)=false:=decide_eq_false (fun h9=>hl1 ⟨hl3,h9⟩);clear hl1 hl3
     go_wp2_with fail
     refine bodyPost_ret (results_ct rfl _ _ g2 25 #[.slice (some ⟨g,0,none⟩) T1.length cg,.int .i64 n1] (0,0) _ rfl (blk_set (blk_set H2_8.out 0 (.slice (some ⟨g,0,none⟩) T1.length cg)) 1 (.int .i64 n1)) hu25 rfl jA) rfl ?_;exact ⟨_,rfl,HFIN.out _ rfl⟩
    have c5 : ((l.length : Int) == 1)=false:=zY.mpr jE;have c5n : (l.length == 1)=false:=zY.mpr hl3;clear hl1 hl3
    go_wp2_with fail
    refine bodyPost_ret (results_ct rfl _ _ g2 25 #[.slice (some ⟨g,0,none⟩) T1.length cg,.int .i64 n1] (0,0) _ rfl (blk_set (blk_set H2_8.out 0 (.slice (some ⟨g,0,none⟩) T1.length cg)) 1 (.int .i64 n1)) hu25 rfl jA) rfl ?_;exact ⟨_,rfl,HFIN.out _ rfl⟩
  have c3 : decide ((i : Int)<(l.length : Int))=false:=decide_eq_false (fun h9=>hil (Int.ofNat_lt.1 h9));have hA:=HA.out;rw [List.drop_of_length_le (Nat.le_of_not_lt hil)] at hA;simp only [Fh.at] at hA;subst hA;have h:=HH.out;simp only [Option.some.injEq,Prod.mk.injEq] at h;obtain ⟨rfl,rfl,rfl⟩:=h;have k0:=zz H0_2.out 0;have k1:=zz H0_2.out 1;have k2:=zz H2_2.out 0;have k3:=zz H2_2.out 1;have f0:=zA H2_2.out 0;have f1:=zA H2_2.out 1
  go_wp2_with fail
  refine bodyPost_ret (results_ct rfl _ _ g2 25 #[.slice (some ad) l0_0.length c0_0,.int .i64 a0_1] (0,0) _ rfl (blk_set (blk_set H2_2.out 0 (.slice (some ad) l0_0.length c0_0)) 1 (.int .i64 a0_1)) hu25 rfl jA) rfl ?_;exact ⟨_,rfl,Kd.V_mk hc0_0 (Kd.F_mono (Kd.F_far (p:=⟨g2,1,none⟩) (Kd.F_far (p:=⟨g2,0,none⟩) (Kd.F_below (Kd.F_bound HF0.out) HB2.out) (fun _ hk e9=>by rw [e9] at hk;exact Nat.lt_irrefl _ (Nat.lt_of_lt_of_le hk.2 GB2.out)) _) (fun _ hk e9=>by rw [e9] at hk;exact Nat.lt_irrefl _ (Nat.lt_of_lt_of_le hk.2 GB2.out)) _) (fun _ hk => .inl hk.1)),zd (zd HB2.out GB2.out) GB2.out⟩

end Go.Proofs.Ytgifonogfgpjdaa.Q
end
