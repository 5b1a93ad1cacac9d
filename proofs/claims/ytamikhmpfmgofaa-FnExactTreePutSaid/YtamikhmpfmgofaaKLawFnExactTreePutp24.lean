/- Texts of this claim, merged by a program of this session. -/
import Derived.Test.YtamikhmpfmgofaaKLawFnExactTreePutp23
section
namespace Go.Proofs.Ytamikhmpfmgofaa.Q
open Go.RowKit Go.Proofs.YtamikhmpfmgofaaW.PrintWords Go.Proofs.YtamikhmpfmgofaaW.PrintLast Go.Proofs.YtamikhmpfmgofaaW.PrintMore
attribute [local go_sem] max2_int min2_int max_two min_two max_three min_three max_four min_four max2_str min2_str str_geq str_gtr str_leq
set_option linter.unusedVariables false
set_option linter.unusedSimpArgs false
attribute [local go_sem high] eqA51
theorem F2.three (w : World) (o0 o1 o2 : Obj) : (((w.alloc o0).alloc o1).alloc o2).heap[w.heap.size]? = some o0∧(((w.alloc o0).alloc o1).alloc o2).heap[w.heap.size+1]? = some o1∧(((w.alloc o0).alloc o1).alloc o2).heap[w.heap.size+1+1]? = some o2∧Below w.heap.size w (((w.alloc o0).alloc o1).alloc o2):=by
 refine ⟨zg (zg (blk_new w _) _) _,zg ?_ _,?_,za (za (za (Below.refl _ _) _) _) _⟩
 ·
  have:=blk_new (w.alloc o0) o1
  simpa using this
 have:=blk_new ((w.alloc o0).alloc o1) o2
 simpa using this
theorem F2.at_F {w : World} {ok : Nat→Prop} {A : Option Addr} {n : Nat} {xs : List S67} (h : Kd.F k67 w ok A n xs) (i : Int) (h0 : 0≤i) (h1 : i<n) : ∃ ad A1 c1,A=some ad∧w.cell? ⟨(ad.add (i.toNat*2)).block,(ad.add (i.toNat*2)).off+1,none⟩=some (.slice A1 (rd_T67 xs i).f1.length c1)∧(rd_T67 xs i).f1.length≤c1∧Kd.F k51 w ok A1 (rd_T67 xs i).f1.length (rd_T67 xs i).f1:=by
 obtain ⟨ad,c,e,_,hK,hc0,_⟩:=Kd.F_get h z67 i h0 h1;have hc : ∀ j u,c[j]? = some u→w.cell? (ad.add (i.toNat*2+j))=some u:=hc0;obtain ⟨A1,c1,rfl,l1,g1⟩:=k67_openF hK;exact ⟨ad,A1,c1,e,jBc,l1,g1⟩
theorem F2.w_next (i : Nat) (h : i≤4611686018427387904) : wrap64 ((i : Int)+1)=((i+1 : Nat) : Int):=by unfold wrap64;omega
theorem F2.K_M {w w' : World} {base : Nat} {ok : Nat→Prop} (x : S51) (cs : List Value) (h : k51.K w' x cs) : k51.M w base ok x cs:=by rw [k51_open h];exact k51_mkM _ _ _ _
def F2.at : List S51→ByteArray→Int→Nat→Option Nat
 | [],_,_,i=>some i
 | x :: xs,key,id,i=>(F0d.f x.f0 x.f1 key id).bind fun b=>(if b=true then F2.at xs key id (i+1) else some i)
def F2.row (l : List S51) (key : ByteArray) (id : Int) (i : Nat) : List S51:=l.take i ++ [(⟨key,id⟩ : S51)]++l.drop i
def F2.out (T : List S67) (n : Int) (j : Nat) (q : Int) (X : List S51) : List S67×Int×Int×Int:=if X.length≤4 then (T.set j (⟨q,X⟩ : S67),n,0,0) else (((T.set j (⟨q,X⟩ : S67)).set j (⟨q,X.take (X.length / 2)⟩ : S67)).take (j+1) ++ [(⟨n,X.drop (X.length / 2)⟩ : S67)]++((T.set j (⟨q,X⟩ : S67)).set j (⟨q,X.take (X.length / 2)⟩ : S67)).drop (j+1),n+1,n,0)
def F2.f (k : Nat) (l0_0 : List (S67)) (a0_1 : Int) (a1_0 : ByteArray) (a1_1 : Int) : Option ((List (S67))×Int×Int×Int):=(F8.f k l0_0 a0_1 a1_0 a1_1).bind fun K=>(if 0≤K then (if K<(l0_0.length : Int) then (if l0_0.length≤4611686018427387904∧((rd_T67 l0_0 K).f1).length≤1000000 then ((F2.at ((rd_T67 l0_0 K).f1) a1_0 a1_1 0).bind fun i=>(if i<((rd_T67 l0_0 K).f1).length∧((rd_T51 ((rd_T67 l0_0 K).f1) (i : Int)).f0.toList == a1_0.toList && ((rd_T51 ((rd_T67 l0_0 K).f1) (i : Int)).f1 == a1_1))=true then some (l0_0,a0_1,0,12) else (if ((rd_T67 l0_0 K).f1).length=4∧(l0_0.length=60∨a0_1=100000) then some (l0_0,a0_1,0,7) else ((F3.f k l0_0 a0_1).bind fun t=>(if K<(t.1.length : Int)∧t.1.length≤1000000∧wrap64 (t.2+1)=t.2+1 then some (F2.out t.1 t.2 K.toNat (rd_T67 t.1 K).f0 (F2.row ((rd_T67 l0_0 K).f1) a1_0 a1_1 i)) else none))))) else none) else none) else none)
theorem F2.mono : ∀ a0 a1 a2 a3 k,LeO (F2.f k a0 a1 a2 a3) (F2.f (k+1) a0 a1 a2 a3):=by
 intro a0 a1 a2 a3 k;unfold F2.f;exact zO (F8.mono _ _ _ _ _) (fun K=>zP (zP (zP (zO (zQ _) (fun i=>zP (zQ _) (zP (zQ _) (zO (F3.mono _ _ _) (fun _=>zQ _))))) (zN _)) (zN _)) (zN _))
theorem F2.at_le : ∀ (l : List S51) (key : ByteArray) (id : Int) (i r : Nat),F2.at l key id i=some r→i≤r∧r≤i+l.length
 | [],_,_,i,r,h=>by
  injection h with h;simp only [List.length_nil];omega
 | x :: xs,key,id,i,r,h=>by
  unfold F2.at at h;obtain ⟨b,_,h⟩:=zT.mp h
  by_cases c : b=true
  ·
   rw [if_pos c] at h
   have:=F2.at_le xs key id (i+1) r h;simp only [List.length_cons];omega
  rw [if_neg c] at h;injection h with h;simp only [List.length_cons];omega
set_option maxHeartbeats 16000000 in
set_option maxRecDepth 100000 in
theorem F2.calls (k : Nat) (P0_0_ : Nat→Prop) (A0_0 : Option Addr) (c0_0 : Nat) (l0_0 : List (S67)) (a0_1 : Int) (a1_0 : ByteArray) (a1_1 : Int) (r1 : List (S67)) (r2 : Int) (r3 : Int) (r4 : Int) (w : World) (hs0_0 : Kd.V k67 67 w w.heap.size (fun k_=>P0_0_ k_) (.slice A0_0 l0_0.length c0_0) l0_0) (h : F2.f k l0_0 a0_1 a1_0 a1_1=some (r1,r2,r3,r4)) :
  Calls Try.prog 48 #[.agg #[.slice A0_0 l0_0.length c0_0,.int .i64 a0_1],.agg #[.string a1_0,.int .i64 a1_1]] w fun e w' => ∃ v0_ : Value,e = .returned (.tuple #[.agg #[v0_,.int .i64 r2],.int .i64 r3,.int .i64 r4])∧Kd.V k67 67 w' w.heap.size (fun k_=>(P0_0_ k_∨w.heap.size≤k_)) v0_ r1∧Below w.heap.size w w':=by
 have hu35:=Try.underlying35;have hu51:=Try.underlying51;have mixed : Try.prog.follows Departure.mixedOrders=true:=by rfl
 have late : Try.prog.follows Departure.lateStores=true:=by rfl
 unfold F2.f at h;obtain ⟨pl,hK,h⟩:=zT.mp h
 by_cases hK0 : 0≤pl
 case neg=>rw [if_neg hK0] at h;cases h
 rw [if_pos hK0] at h
 by_cases hK1 : pl<(l0_0.length : Int)
 case neg=>rw [if_neg hK1] at h;cases h
 rw [if_pos hK1] at h;obtain ⟨l,hl⟩ : ∃ l,l=(rd_T67 l0_0 pl).f1:=⟨_,rfl⟩;rw [← hl] at h
 by_cases hlm : l0_0.length≤4611686018427387904∧l.length≤1000000
 case neg=>rw [if_neg hlm] at h;cases h
 rw [if_pos hlm] at h;obtain ⟨-,hc0_0,hF0⟩:=Kd.V_at hs0_0;obtain ⟨ad,Al,cl,rfl,hxl,hlc,hFl⟩:=F2.at_F hF0 pl hK0 hK1;rw [← hl] at hxl hlc hFl;have HF0:=zh hF0;have HFl:=zh hFl;have HXL:=zh hxl;have HLC:=zh hlc;have HLM:=zh hlm;have HL:=zh hl;obtain ⟨V,hV⟩ : ∃ V,V=((w.alloc (.cells #[.slice (some ad) l0_0.length c0_0,.int .i64 a0_1] 35)).alloc (.cells #[.string a1_0,.int .i64 a1_1] 51)).alloc (.cells #[.slice none 0 0,.int .i64 0] 35):=⟨_,rfl⟩;obtain ⟨h0,h1,h2,hBV⟩:=F2.three w (.cells #[.slice (some ad) l0_0.length c0_0,.int .i64 a0_1] 35) (.cells #[.string a1_0,.int .i64 a1_1] 51) (.cells #[.slice none 0 0,.int .i64 0] 35);rw [← hV] at h0 h1 h2 hBV;obtain ⟨g0,hg0⟩ : ∃ g,g=w.heap.size:=⟨_,rfl⟩;rw [← hg0] at h0 h1 h2;obtain ⟨g1,hg1⟩ : ∃ g,g=g0+1:=⟨_,rfl⟩;rw [← hg1] at h1 h2;obtain ⟨g2,hg2⟩ : ∃ g,g=g1+1:=⟨_,rfl⟩;rw [← hg2] at h2;have hb0 : w.heap.size≤g0:=Nat.le_of_eq hg0.symm;have hb1 : w.heap.size≤g1:=by rw [hg1,hg0];exact Nat.le_add_right _ _
 have hb2 : w.heap.size≤g2:=by rw [hg2,hg1,hg0,Nat.add_assoc];exact Nat.le_add_right _ _
 have n02 : g0≠g2:=by omega
 have n10 : g1≠g0:=by omega
 have HB0:=zh hBV;have H0_0:=zh h0;have H1_0:=zh h1;have H2_0:=zh h2;have GB0:=zh hb0;have GB1:=zh hb1;have GB2:=zh hb2;have N02:=zh n02;have N10:=zh n10;have k0:=(zz h0 0).trans (show _=some (.slice (some ad) l0_0.length c0_0) from rfl);have k1:=(zz h0 1).trans (show _=some (.int .i64 a0_1) from rfl);have k2:=(zz h1 0).trans (show _=some (.string a1_0) from rfl);have k3:=(zz h1 1).trans (show _=some (.int .i64 a1_1) from rfl);clear h0 h1 h2 hBV hF0 hFl hxl hlc hlm hb0 hb1 hb2 n02 n10 hs0_0
 go_enter Try.func48,Try.ntmps48
 go_wp2_with fail
 rw [← hV];simp only [← hg0];simp only [← hg1];simp only [← hg2];clear hV hg0 hg1 hg2
 go_at_call 53
 refine (F8.calls k (some ad) c0_0 l0_0 a0_1 a1_0 a1_1 pl V (Kd.F_now (Kd.F_below HF0.out HB0.out)) hc0_0 hK).mono ?_;rintro e w1 ⟨rfl,hb_⟩;have HB1:=zh (zC HB0.out hb_);have H0_1:=zh (zD H0_0.out hb_);have H1_1:=zh (zD H1_0.out hb_);have H2_1:=zh (zD H2_0.out hb_);clear k0 k1 k2 k3 hb_ hK HB0 H0_0 H1_0 H2_0;have k0:=(zz H0_1.out 0).trans (show _=some (.slice (some ad) l0_0.length c0_0) from rfl);have kx:=(HB1.out.cell (zl w _ HXL.out)).trans HXL.out;have hp0:=eq_true hK0;have hp1:=eq_true hK1;clear hl
 go_upto_block 0 with (fail)
 obtain ⟨im,hI,h⟩:=zT.mp h;have HH:=zh h;have HR0:=zh hI;have HIL : Aside0 (im≤l.length):=⟨by have:=F2.at_le _ _ _ _ _ hI;omega⟩;clear k0 kx h hI
 go_cut [9] (fun v9 wc=>v9 = .int .i64 (im : Int)∧Aside0 (wc.heap[g0]? = some (.cells #[.slice (some ad) l0_0.length c0_0,.int .i64 a0_1] 35 (0,0)))∧Aside0 (wc.heap[g1]? = some (.cells #[.string a1_0,.int .i64 a1_1] 51 (0,0)))∧Aside0 (wc.heap[g2]? = some (.cells #[.slice none 0 0,.int .i64 0] 35 (0,0)))∧Aside0 (Below w.heap.size w wc))
 case first =>
  go_wp2_with fail
  go_loopg [9] l.length (fun kq v9 wc => ∃ (i : Nat),v9 = .int .i64 (i : Int)∧Aside0 (kq+i=l.length)∧Aside0 (F2.at (l.drop i) a1_0 a1_1 i=some im)∧Aside0 (wc.heap[g0]? = some (.cells #[.slice (some ad) l0_0.length c0_0,.int .i64 a0_1] 35 (0,0)))∧Aside0 (wc.heap[g1]? = some (.cells #[.string a1_0,.int .i64 a1_1] 51 (0,0)))∧Aside0 (wc.heap[g2]? = some (.cells #[.slice none 0 0,.int .i64 0] 35 (0,0)))∧Aside0 (Below w.heap.size w wc))
  case atStart=>exact ⟨0,rfl,⟨jD⟩,⟨by rw [List.drop_zero];exact HR0.out⟩,H0_1,H1_1,H2_1,HB1⟩
  case round =>
   clear H0_1 H1_1 H2_1 HB1 HR0 HH;obtain ⟨i,rfl,HI,HA,H0_2,H1_2,H2_2,HB2⟩:=hrel
   by_cases hil : i<l.length
   ·
    have c3 : decide ((i : Int)<(l.length : Int))=true:=decide_eq_true (Int.ofNat_lt.2 hil)
    have hi0 : (0≤(i : Int))=True:=eq_true (Int.natCast_nonneg i);have hi1 : ((i : Int)<(l.length : Int))=True:=eq_true (Int.ofNat_lt.2 hil);have hwi:=F2.w_next i (Nat.le_trans (Nat.le_of_lt hil) (Nat.le_trans HLM.out.2 jB));obtain ⟨kq,rfl⟩ : ∃ q,gk=q+1:=⟨gk - 1,jAI⟩;obtain ⟨ae,hAe,hx0_,hx1_⟩:=at_T51 (Kd.F_now HFl.out) (i : Int) (Int.natCast_nonneg _) (Int.ofNat_lt.2 hil)
    cases hAe
    rw [Int.toNat_natCast] at hx0_ hx1_;have hx0:=(HB2.out.cell (zl w _ hx0_)).trans hx0_;have hx1:=(HB2.out.cell (zl w _ hx1_)).trans hx1_;have hA:=HA.out;rw [List.drop_eq_getElem_cons hil] at hA;simp only [F2.at] at hA
    have er : l[i]=rd_T51 l (i : Int):=by
     unfold rd_T51;rw [List.getD_eq_getElem?_getD,Int.toNat_natCast,List.getElem?_eq_getElem hil];rfl
    rw [er] at hA;obtain ⟨bl,hbl,hA⟩:=zT.mp hA;have HA2:=zh hA;clear hA er HA hx0_ hx1_;have k2:=(zz H1_2.out 0).trans (show _=some (.string a1_0) from rfl);have k3:=(zz H1_2.out 1).trans (show _=some (.int .i64 a1_1) from rfl)
    go_wp2_with fail
    have HB3:=zh (zc HB2.out);have H0_3:=zh (zf H0_2.out);have H1_3:=zh (zf H1_2.out);have H2_3:=zh (zf H2_2.out);refine start_ (n:=12) (S:=fun w' => w'.cell? (ae.add (i*2))=some (.string (rd_T51 l (i : Int)).f0)∧w'.cell? ⟨(ae.add (i*2)).block,(ae.add (i*2)).off+1,none⟩=some (.int .i64 (rd_T51 l (i : Int)).f1)∧w'.cell? ⟨g1,0,none⟩=some (.string a1_0)∧w'.cell? ⟨g1,1,none⟩=some (.int .i64 a1_1)) (ds:=[10]) (bm_ 0 12) jA rfl rfl ⟨hx0,hx1,k2,k3⟩ (fun hHeld=>?_);generalize wr.drew=w3 at HB3 H0_3 H1_3 H2_3 hHeld ⊢;clear hx0 hx1 k2 k3 HB2 H0_2 H1_2 H2_2;refine pure_ (i:=0) (N:=some 21) (v:=?_) (a':=?_) (bm_ 1 12) rfl rfl jA (fun _ _ _ h=>h) (Or.inl ⟨by rfl,?_⟩) ?_ ?_;rotate_left;exact jb;rotate_left;exact jc
    refine pure_ (i:=1) (N:=some 22) (v:=?_) (a':=?_) (bm_ 2 12) rfl rfl jA (fun _ _ _ h=>h) (Or.inl ⟨by rfl,?_⟩) ?_ ?_;rotate_left;exact jb;rotate_left;exact jc
    refine pure_ (i:=2) (N:=some 23) (v:=?_) (a':=?_) (bm_ 3 12) rfl rfl jA (fun _ _ _ h=>h) (Or.inl ⟨by rfl,?_⟩) ?_ ?_;rotate_left;exact jb;rotate_left;exact jc
    refine pure_ (i:=3) (N:=some 24) (v:=?_) (a':=?_) (bm_ 4 12) rfl rfl jA (fun _ _ _ h=>h) (Or.inl ⟨by rfl,?_⟩) ?_ ?_;rotate_left;exact jb;rotate_left;exact jc
    refine pure_ (i:=4) (N:=some 25) (v:=?_) (a':=?_) (bm_ 5 12) rfl rfl jA (fun _ _ _ h=>h) (Or.inl ⟨by rfl,?_⟩) ?_ ?_;rotate_left;exact jb;rotate_left;exact jc
    refine pure_ (i:=5) (N:=some 26) (v:=?_) (a':=?_) (bm_ 6 12) rfl rfl jA (fun _ _ _ h=>h) (Or.inl ⟨by rfl,?_⟩) ?_ ?_;rotate_left;exact jb;rotate_left;exact jc
    refine pure_ (i:=6) (N:=some 27) (v:=?_) (a':=?_) (bm_ 7 12) rfl rfl jA (fun _ _ _ h=>h) (Or.inl ⟨by rfl,?_⟩) ?_ ?_;rotate_left;exact jb;rotate_left;exact jc
    refine pure_ (i:=7) (N:=some 28) (v:=?_) (a':=?_) (bm_ 8 12) rfl rfl jA (fun _ _ _ h=>h) (Or.inl ⟨by rfl,?_⟩) ?_ ?_;rotate_left;exact jb;rotate_left;exact jc
    refine take_ (i:=8) (N:=some 29) (v:=?_) (a':=?_) (bm_ 9 12) rfl rfl jA (fun _ _ _ h=>h) (Or.inl ⟨by rfl,?_⟩) hHeld ?_ ?_;rotate_left
    ·
     rintro w' ⟨s0,s1,s2,s3⟩
     go_simp
     with_reducible rfl
    rotate_left
    exact jc
    refine take_ (i:=9) (N:=some 30) (v:=?_) (a':=?_) (bm_ 10 12) rfl rfl jA (fun _ _ _ h=>h) (Or.inl ⟨by rfl,?_⟩) hHeld ?_ ?_;rotate_left
    ·
     rintro w' ⟨s0,s1,s2,s3⟩
     go_simp
     with_reducible rfl
    rotate_left
    exact jc
    refine last_ (i:=10) (N:=some 31) (bm_ 11 12) rfl rfl jA jB (fun K hK=>?_);refine goes_ Try.func52 jA rfl #[.agg #[.string (rd_T51 l (i : Int)).f0,.int .i64 (rd_T51 l (i : Int)).f1],.agg #[.string a1_0,.int .i64 a1_1]] (by rfl) rfl rfl jI ?_
    with_reducible refine (F0d.calls (rd_T51 l (i : Int)).f0 (rd_T51 l (i : Int)).f1 a1_0 a1_1 bl _ hbl).mono ?_
    rintro e w4 ⟨rfl,hb_⟩;refine ⟨_,rfl,?_⟩;refine hK.out _ _ ?_;clear hK K;refine norm_ (a':=?_) ?_ ?_;rotate_left
    ·
     show Act.put _ (some 31) _=_
     simp only [Act.put,zi,zj,zk,zG,zH]
     rfl
    refine pure_ (i:=11) (N:=some 32) (v:=?_) (a':=?_) (bm_ 12 12) rfl rfl jA (fun _ _ _ h=>h) (Or.inl ⟨by rfl,?_⟩) ?_ ?_;rotate_left;exact jb;rotate_left;exact jc
    refine done_ jA ?_;have HB4:=zh (zC HB3.out hb_);have H0_4:=zh (zD H0_3.out hb_);have H1_4:=zh (zD H1_3.out hb_);have H2_4:=zh (zD H2_3.out hb_);have hA3:=HA2.out;clear hbl hb_ HA2 HB3 H0_3 H1_3 H2_3
    cases bl with
    | true =>
     replace hA3 : F2.at (l.drop (i+1)) a1_0 a1_1 (i+1)=some im:=hA3;have HA3:=zh hA3;clear hA3
     go_wp2_with fail
     go_roundg kq
     case measure=>exact Nat.lt_succ_self _
     case rel=>exact ⟨i+1,by first|rfl|rw [hwi],⟨jAI⟩,HA3,H0_4,H1_4,H2_4,HB4⟩
    | false =>
     replace hA3 : some i=some im:=hA3;obtain rfl:=zU hA3;clear hA3
     go_wp2_with fail
     go_meet
     case rel=>exact ⟨rfl,H0_4,H1_4,H2_4,HB4⟩
   have c3 : decide ((i : Int)<(l.length : Int))=false:=decide_eq_false (fun h9=>hil (Int.ofNat_lt.1 h9));have hA:=HA.out;rw [List.drop_of_length_le (Nat.le_of_not_lt hil)] at hA;replace hA : some i=some im:=hA;obtain rfl:=zU hA;clear hA
   go_wp2_with fail
   have HB3:=zh (zc HB2.out);have H0_3:=zh (zf H0_2.out);have H1_3:=zh (zf H1_2.out);have H2_3:=zh (zf H2_2.out);refine start_ (n:=12) (S:=fun w' => True) (ds:=[]) (bm_ 0 12) jA rfl rfl trivial (fun hHeld=>?_);generalize wr.drew=w3 at HB3 H0_3 H1_3 H2_3 hHeld ⊢;clear HB2 H0_2 H1_2 H2_2;refine pure_ (i:=0) (N:=some 21) (v:=?_) (a':=?_) (bm_ 1 12) rfl rfl jA (fun _ _ _ h=>h) (Or.inl ⟨by rfl,?_⟩) ?_ ?_;rotate_left;exact jb;rotate_left;exact jc
   refine pure_ (i:=1) (N:=some 22) (v:=?_) (a':=?_) (bm_ 2 12) rfl rfl jA (fun _ _ _ h=>h) (Or.inl ⟨by rfl,?_⟩) ?_ ?_;rotate_left;exact jb;rotate_left;exact jc
   refine pure_ (i:=2) (N:=some 23) (v:=?_) (a':=?_) (bm_ 3 12) rfl rfl jA (fun _ _ _ h=>h) (Or.inl ⟨by rfl,?_⟩) ?_ ?_;rotate_left;exact jb;rotate_left;exact jc
   refine pure_ (i:=3) (N:=some 24) (v:=?_) (a':=?_) (bm_ 4 12) rfl rfl jA (fun _ _ _ h=>h) (Or.inl ⟨by rfl,?_⟩) ?_ ?_;rotate_left;exact jb;rotate_left;exact jc
   refine pure_ (i:=4) (N:=some 25) (v:=?_) (a':=?_) (bm_ 5 12) rfl rfl jA (fun _ _ _ h=>h) (Or.inl ⟨by rfl,?_⟩) ?_ ?_;rotate_left;exact jb;rotate_left;exact jc
   refine pure_ (i:=5) (N:=some 26) (v:=undef) (a':=?_) (bm_ 6 12) rfl rfl jA (fun _ _ _ h=>h) (Or.inr ⟨by rfl,rfl⟩) ?_ ?_;rotate_left
   exact jc
   refine pure_ (i:=6) (N:=some 27) (v:=undef) (a':=?_) (bm_ 7 12) rfl rfl jA (fun _ _ _ h=>h) (Or.inr ⟨by rfl,rfl⟩) ?_ ?_;rotate_left
   exact jc
   refine pure_ (i:=7) (N:=some 28) (v:=undef) (a':=?_) (bm_ 8 12) rfl rfl jA (fun _ _ _ h=>h) (Or.inr ⟨by rfl,rfl⟩) ?_ ?_;rotate_left
   exact jc
   refine pure_ (i:=8) (N:=some 29) (v:=undef) (a':=?_) (bm_ 9 12) rfl rfl jA (fun _ _ _ h=>h) (Or.inr ⟨by rfl,rfl⟩) ?_ ?_;rotate_left
   exact jc
   refine pure_ (i:=9) (N:=some 30) (v:=undef) (a':=?_) (bm_ 10 12) rfl rfl jA (fun _ _ _ h=>h) (Or.inr ⟨by rfl,rfl⟩) ?_ ?_;rotate_left
   exact jc
   refine pure_ (i:=10) (N:=some 31) (v:=undef) (a':=?_) (bm_ 11 12) rfl rfl jA (fun _ _ _ h=>h) (Or.inr ⟨by rfl,rfl⟩) ?_ ?_;rotate_left
   exact jc
   refine pure_ (i:=11) (N:=some 32) (v:=?_) (a':=?_) (bm_ 12 12) rfl rfl jA (fun _ _ _ h=>h) (Or.inl ⟨by rfl,?_⟩) ?_ ?_;rotate_left;exact jb;rotate_left;exact jc
   refine done_ jA ?_
   go_wp2_with fail
   go_meet
   case rel=>exact ⟨rfl,H0_3,H1_3,H2_3,HB3⟩
 case rest =>
  clear H0_1 H1_1 H2_1 HB1 HR0;obtain ⟨rfl,H0_1,H1_1,H2_1,HB1⟩:=hcut
  go_upto_region 6 with (fail)
  go_cut [46] (fun v46 wc => ∃ b : Bool,v46 = .bool b∧Aside0 ((if b=true then some (l0_0,a0_1,0,12) else (if l.length=4∧(l0_0.length=60∨a0_1=100000) then some (l0_0,a0_1,0,7) else ((F3.f k l0_0 a0_1).bind fun t=>(if pl<(t.1.length : Int)∧t.1.length≤1000000∧wrap64 (t.2+1)=t.2+1 then some (F2.out t.1 t.2 pl.toNat (rd_T67 t.1 pl).f0 (F2.row l a1_0 a1_1 im)) else none))))=some (r1,r2,r3,r4))∧Aside0 (wc.heap[g0]? = some (.cells #[.slice (some ad) l0_0.length c0_0,.int .i64 a0_1] 35 (0,0)))∧Aside0 (wc.heap[g1]? = some (.cells #[.string a1_0,.int .i64 a1_1] 51 (0,0)))∧Aside0 (wc.heap[g2]? = some (.cells #[.slice none 0 0,.int .i64 0] 35 (0,0)))∧Aside0 (Below w.heap.size w wc))
  case first =>
   have h:=HH.out;clear HH
   by_cases hil : im<l.length
   ·
    have c3 : decide ((im : Int)<(l.length : Int))=true:=decide_eq_true (Int.ofNat_lt.2 hil)
    have hi0 : (0≤(im : Int))=True:=eq_true (Int.natCast_nonneg im);have hi1 : ((im : Int)<(l.length : Int))=True:=eq_true (Int.ofNat_lt.2 hil);obtain ⟨ae,hAe,hx0_,hx1_⟩:=at_T51 (Kd.F_now HFl.out) (im : Int) (Int.natCast_nonneg _) (Int.ofNat_lt.2 hil)
    cases hAe
    rw [Int.toNat_natCast] at hx0_ hx1_;clear hi0;have hi0 : (0≤(im : Int))=True:=eq_true (Int.natCast_nonneg im);have hx0:=(HB1.out.cell (zl w _ hx0_)).trans hx0_;have hx1:=(HB1.out.cell (zl w _ hx1_)).trans hx1_;have k2:=(zz H1_1.out 0).trans (show _=some (.string a1_0) from rfl);have k3:=(zz H1_1.out 1).trans (show _=some (.int .i64 a1_1) from rfl);clear hx0_ hx1_
    go_wp2_with fail
    have HB3:=zh (zc HB1.out);have H0_3:=zh (zf H0_1.out);have H1_3:=zh (zf H1_1.out);have H2_3:=zh (zf H2_1.out);refine start_ (n:=12) (S:=fun w' => w'.cell? (ae.add (im*2))=some (.string (rd_T51 l (im : Int)).f0)∧w'.cell? ⟨(ae.add (im*2)).block,(ae.add (im*2)).off+1,none⟩=some (.int .i64 (rd_T51 l (im : Int)).f1)∧w'.cell? ⟨g1,0,none⟩=some (.string a1_0)∧w'.cell? ⟨g1,1,none⟩=some (.int .i64 a1_1)) (ds:=[]) (bm_ 0 12) jA rfl rfl ⟨hx0,hx1,k2,k3⟩ (fun hHeld=>?_);generalize wc.drew=w3 at HB3 H0_3 H1_3 H2_3 hHeld ⊢;clear hx0 hx1 k2 k3 HB1 H0_1 H1_1 H2_1;refine pure_ (i:=0) (N:=some 35) (v:=?_) (a':=?_) (bm_ 1 12) rfl rfl jA (fun _ _ _ h=>h) (Or.inl ⟨by rfl,?_⟩) ?_ ?_;rotate_left;exact jb;rotate_left;exact jc
    refine pure_ (i:=1) (N:=some 36) (v:=?_) (a':=?_) (bm_ 2 12) rfl rfl jA (fun _ _ _ h=>h) (Or.inl ⟨by rfl,?_⟩) ?_ ?_;rotate_left;exact jb;rotate_left;exact jc
    refine pure_ (i:=2) (N:=some 37) (v:=?_) (a':=?_) (bm_ 3 12) rfl rfl jA (fun _ _ _ h=>h) (Or.inl ⟨by rfl,?_⟩) ?_ ?_;rotate_left;exact jb;rotate_left;exact jc
    refine pure_ (i:=3) (N:=some 38) (v:=?_) (a':=?_) (bm_ 4 12) rfl rfl jA (fun _ _ _ h=>h) (Or.inl ⟨by rfl,?_⟩) ?_ ?_;rotate_left;exact jb;rotate_left;exact jc
    refine pure_ (i:=4) (N:=some 39) (v:=?_) (a':=?_) (bm_ 5 12) rfl rfl jA (fun _ _ _ h=>h) (Or.inl ⟨by rfl,?_⟩) ?_ ?_;rotate_left;exact jb;rotate_left;exact jc
    refine pure_ (i:=5) (N:=some 40) (v:=?_) (a':=?_) (bm_ 6 12) rfl rfl jA (fun _ _ _ h=>h) (Or.inl ⟨by rfl,?_⟩) ?_ ?_;rotate_left;exact jb;rotate_left;exact jc
    refine pure_ (i:=6) (N:=some 41) (v:=?_) (a':=?_) (bm_ 7 12) rfl rfl jA (fun _ _ _ h=>h) (Or.inl ⟨by rfl,?_⟩) ?_ ?_;rotate_left;exact jb;rotate_left;exact jc
    refine pure_ (i:=7) (N:=some 42) (v:=?_) (a':=?_) (bm_ 8 12) rfl rfl jA (fun _ _ _ h=>h) (Or.inl ⟨by rfl,?_⟩) ?_ ?_;rotate_left;exact jb;rotate_left;exact jc
    refine take_ (i:=8) (N:=some 43) (v:=?_) (a':=?_) (bm_ 9 12) rfl rfl jA (fun _ _ _ h=>h) (Or.inl ⟨by rfl,?_⟩) hHeld ?_ ?_;rotate_left
    ·
     rintro w' ⟨s0,s1,s2,s3⟩
     go_simp
     with_reducible rfl
    rotate_left
    exact jc
    refine take_ (i:=9) (N:=some 44) (v:=?_) (a':=?_) (bm_ 10 12) rfl rfl jA (fun _ _ _ h=>h) (Or.inl ⟨by rfl,?_⟩) hHeld ?_ ?_;rotate_left
    ·
     rintro w' ⟨s0,s1,s2,s3⟩
     go_simp
     with_reducible rfl
    rotate_left
    exact jc
    refine pure_ (i:=10) (N:=some 45) (v:=?_) (a':=?_) (bm_ 11 12) rfl rfl jA (fun _ _ _ h=>h) (Or.inl ⟨by rfl,?_⟩) ?_ ?_;rotate_left;exact jb;rotate_left;exact jc
    refine pure_ (i:=11) (N:=some 46) (v:=?_) (a':=?_) (bm_ 12 12) rfl rfl jA (fun _ _ _ h=>h) (Or.inl ⟨by rfl,?_⟩) ?_ ?_;rotate_left;exact jb;rotate_left;exact jc
    refine done_ jA ?_;obtain ⟨bA,hbA⟩ : ∃ b,b=((rd_T51 l (im : Int)).f0.toList == a1_0.toList && ((rd_T51 l (im : Int)).f1 == a1_1)):=⟨_,rfl⟩;rw [← hbA] at h ⊢;clear hbA
    have H' : Aside0 ((if bA=true then some (l0_0,a0_1,0,12) else (if l.length=4∧(l0_0.length=60∨a0_1=100000) then some (l0_0,a0_1,0,7) else ((F3.f k l0_0 a0_1).bind fun t=>(if pl<(t.1.length : Int)∧t.1.length≤1000000∧wrap64 (t.2+1)=t.2+1 then some (F2.out t.1 t.2 pl.toNat (rd_T67 t.1 pl).f0 (F2.row l a1_0 a1_1 im)) else none))))=some (r1,r2,r3,r4)):=⟨by
     cases bA with
     | true=>rw [if_pos ⟨hil,rfl⟩] at h;rw [if_pos rfl];exact h
     | false=>rw [if_neg (fun h9=>by cases h9.2)] at h;rw [if_neg jB];exact h⟩
    clear h
    go_wp2_with fail
    go_meet
    case rel=>exact ⟨bA,rfl,H',H0_3,H1_3,H2_3,HB3⟩
   have c3 : decide ((im : Int)<(l.length : Int))=false:=decide_eq_false (fun h9=>hil (Int.ofNat_lt.1 h9));rw [if_neg (fun h9=>hil h9.1)] at h;have H' : Aside0 ((if false=true then some (l0_0,a0_1,0,12) else (if l.length=4∧(l0_0.length=60∨a0_1=100000) then some (l0_0,a0_1,0,7) else ((F3.f k l0_0 a0_1).bind fun t=>(if pl<(t.1.length : Int)∧t.1.length≤1000000∧wrap64 (t.2+1)=t.2+1 then some (F2.out t.1 t.2 pl.toNat (rd_T67 t.1 pl).f0 (F2.row l a1_0 a1_1 im)) else none))))=some (r1,r2,r3,r4)):=⟨jBA⟩;clear h
   go_wp2_with fail
   have HB3:=zh (zc HB1.out);have H0_3:=zh (zf H0_1.out);have H1_3:=zh (zf H1_1.out);have H2_3:=zh (zf H2_1.out);refine start_ (n:=12) (S:=fun w' => True) (ds:=[]) (bm_ 0 12) jA rfl rfl trivial (fun hHeld=>?_);generalize wc.drew=w3 at HB3 H0_3 H1_3 H2_3 hHeld ⊢;clear HB1 H0_1 H1_1 H2_1;refine pure_ (i:=0) (N:=some 35) (v:=?_) (a':=?_) (bm_ 1 12) rfl rfl jA (fun _ _ _ h=>h) (Or.inl ⟨by rfl,?_⟩) ?_ ?_;rotate_left;exact jb;rotate_left;exact jc
   refine pure_ (i:=1) (N:=some 36) (v:=?_) (a':=?_) (bm_ 2 12) rfl rfl jA (fun _ _ _ h=>h) (Or.inl ⟨by rfl,?_⟩) ?_ ?_;rotate_left;exact jb;rotate_left;exact jc
   refine pure_ (i:=2) (N:=some 37) (v:=?_) (a':=?_) (bm_ 3 12) rfl rfl jA (fun _ _ _ h=>h) (Or.inl ⟨by rfl,?_⟩) ?_ ?_;rotate_left;exact jb;rotate_left;exact jc
   refine pure_ (i:=3) (N:=some 38) (v:=?_) (a':=?_) (bm_ 4 12) rfl rfl jA (fun _ _ _ h=>h) (Or.inl ⟨by rfl,?_⟩) ?_ ?_;rotate_left;exact jb;rotate_left;exact jc
   refine pure_ (i:=4) (N:=some 39) (v:=?_) (a':=?_) (bm_ 5 12) rfl rfl jA (fun _ _ _ h=>h) (Or.inl ⟨by rfl,?_⟩) ?_ ?_;rotate_left;exact jb;rotate_left;exact jc
   refine pure_ (i:=5) (N:=some 40) (v:=undef) (a':=?_) (bm_ 6 12) rfl rfl jA (fun _ _ _ h=>h) (Or.inr ⟨by rfl,rfl⟩) ?_ ?_;rotate_left
   exact jc
   refine pure_ (i:=6) (N:=some 41) (v:=undef) (a':=?_) (bm_ 7 12) rfl rfl jA (fun _ _ _ h=>h) (Or.inr ⟨by rfl,rfl⟩) ?_ ?_;rotate_left
   exact jc
   refine pure_ (i:=7) (N:=some 42) (v:=undef) (a':=?_) (bm_ 8 12) rfl rfl jA (fun _ _ _ h=>h) (Or.inr ⟨by rfl,rfl⟩) ?_ ?_;rotate_left
   exact jc
   refine pure_ (i:=8) (N:=some 43) (v:=undef) (a':=?_) (bm_ 9 12) rfl rfl jA (fun _ _ _ h=>h) (Or.inr ⟨by rfl,rfl⟩) ?_ ?_;rotate_left
   exact jc
   refine pure_ (i:=9) (N:=some 44) (v:=undef) (a':=?_) (bm_ 10 12) rfl rfl jA (fun _ _ _ h=>h) (Or.inr ⟨by rfl,rfl⟩) ?_ ?_;rotate_left
   exact jc
   refine pure_ (i:=10) (N:=some 45) (v:=undef) (a':=?_) (bm_ 11 12) rfl rfl jA (fun _ _ _ h=>h) (Or.inr ⟨by rfl,rfl⟩) ?_ ?_;rotate_left
   exact jc
   refine pure_ (i:=11) (N:=some 46) (v:=?_) (a':=?_) (bm_ 12 12) rfl rfl jA (fun _ _ _ h=>h) (Or.inl ⟨by rfl,?_⟩) ?_ ?_;rotate_left;exact jb;rotate_left;exact jc
   refine done_ jA ?_
   go_wp2_with fail
   go_meet
   case rel=>exact ⟨false,rfl,H',H0_3,H1_3,H2_3,HB3⟩
  case rest =>
   clear HH H0_1 H1_1 H2_1 HB1;obtain ⟨b6,rfl,HH,H0_1,H1_1,H2_1,HB1⟩:=hcut
   cases b6
   case true =>
    have h:=HH.out;rw [if_pos rfl] at h;simp only [Option.some.injEq,Prod.mk.injEq] at h;clear HH;obtain ⟨rfl,rfl,rfl,rfl⟩:=h;have k0:=zz H0_1.out 0;have k1:=zz H0_1.out 1;have k2:=zz H2_1.out 0;have k3:=zz H2_1.out 1;have f0:=zA H2_1.out 0;have f1:=zA H2_1.out 1
    go_wp2_with fail
    refine bodyPost_ret (results_ctt rfl _ _ g2 35 #[.slice (some ad) l0_0.length c0_0,.int .i64 a0_1] (0,0) _ rfl (blk_set (blk_set H2_1.out 0 (.slice (some ad) l0_0.length c0_0)) 1 (.int .i64 a0_1)) hu35 rfl jA) rfl ?_;exact ⟨_,rfl,Kd.V_mk hc0_0 (Kd.F_mono (Kd.F_far (p:=⟨g2,1,none⟩) (Kd.F_far (p:=⟨g2,0,none⟩) (Kd.F_below (Kd.F_bound HF0.out) HB1.out) (fun _ hk e9=>by rw [e9] at hk;exact Nat.lt_irrefl _ (Nat.lt_of_lt_of_le hk.2 GB2.out)) _) (fun _ hk e9=>by rw [e9] at hk;exact Nat.lt_irrefl _ (Nat.lt_of_lt_of_le hk.2 GB2.out)) _) (fun _ hk => .inl hk.1)),zd (zd HB1.out GB2.out) GB2.out⟩
   have h:=HH.out;rw [if_neg jB] at h;replace HH:=zh h;clear h
   go_upto_region 8 with (fail)
   go_cut [61] (fun v61 wc => ∃ b : Bool,v61 = .bool b∧Aside0 ((if b=true then some (l0_0,a0_1,0,7) else ((F3.f k l0_0 a0_1).bind fun t=>(if pl<(t.1.length : Int)∧t.1.length≤1000000∧wrap64 (t.2+1)=t.2+1 then some (F2.out t.1 t.2 pl.toNat (rd_T67 t.1 pl).f0 (F2.row l a1_0 a1_1 im)) else none)))=some (r1,r2,r3,r4))∧Aside0 (wc.heap[g0]? = some (.cells #[.slice (some ad) l0_0.length c0_0,.int .i64 a0_1] 35 (0,0)))∧Aside0 (wc.heap[g1]? = some (.cells #[.string a1_0,.int .i64 a1_1] 51 (0,0)))∧Aside0 (wc.heap[g2]? = some (.cells #[.slice none 0 0,.int .i64 0] 35 (0,0)))∧Aside0 (Below w.heap.size w wc))
   case first =>
    have h:=HH.out;clear HH;have k0:=(zz H0_1.out 0).trans (show _=some (.slice (some ad) l0_0.length c0_0) from rfl);have k1:=(zz H0_1.out 1).trans (show _=some (.int .i64 a0_1) from rfl)
    by_cases d1 : l.length=4
    case neg =>
     rw [if_neg (fun h9=>d1 h9.1)] at h;have e1 : ((l.length : Int) == 4)=false:=zY.mpr jD;have e1n : (l.length == 4)=false:=zY.mpr d1;have H' : Aside0 ((if false=true then some (l0_0,a0_1,0,7) else ((F3.f k l0_0 a0_1).bind fun t=>(if pl<(t.1.length : Int)∧t.1.length≤1000000∧wrap64 (t.2+1)=t.2+1 then some (F2.out t.1 t.2 pl.toNat (rd_T67 t.1 pl).f0 (F2.row l a1_0 a1_1 im)) else none)))=some (r1,r2,r3,r4)):=⟨jBA⟩;clear h d1
     go_wp2_with fail
     go_meet
     case rel=>exact ⟨false,rfl,H',H0_1,H1_1,H2_1,HB1⟩
    have e1 : ((l.length : Int) == 4)=true:=ya.mpr jD;have e1n : (l.length == 4)=true:=ya.mpr d1
    by_cases d2 : l0_0.length=60
    case pos =>
     rw [if_pos ⟨d1,.inl d2⟩] at h;have e2 : ((l0_0.length : Int) == 60)=true:=ya.mpr jD;have e2n : (l0_0.length == 60)=true:=ya.mpr d2;have H' : Aside0 ((if true=true then some (l0_0,a0_1,0,7) else ((F3.f k l0_0 a0_1).bind fun t=>(if pl<(t.1.length : Int)∧t.1.length≤1000000∧wrap64 (t.2+1)=t.2+1 then some (F2.out t.1 t.2 pl.toNat (rd_T67 t.1 pl).f0 (F2.row l a1_0 a1_1 im)) else none)))=some (r1,r2,r3,r4)):=⟨by rw [if_pos rfl];exact h⟩;clear h d1 d2
     go_wp2_with fail
     go_meet
     case rel=>exact ⟨true,rfl,H',H0_1,H1_1,H2_1,HB1⟩
    have e2 : ((l0_0.length : Int) == 60)=false:=zY.mpr jD;have e2n : (l0_0.length == 60)=false:=zY.mpr d2
    by_cases d3 : a0_1=100000
    case pos =>
     rw [if_pos ⟨d1,.inr d3⟩] at h;have e3 : (a0_1 == 100000)=true:=ya.mpr d3;have H' : Aside0 ((if true=true then some (l0_0,a0_1,0,7) else ((F3.f k l0_0 a0_1).bind fun t=>(if pl<(t.1.length : Int)∧t.1.length≤1000000∧wrap64 (t.2+1)=t.2+1 then some (F2.out t.1 t.2 pl.toNat (rd_T67 t.1 pl).f0 (F2.row l a1_0 a1_1 im)) else none)))=some (r1,r2,r3,r4)):=⟨by rw [if_pos rfl];exact h⟩;clear h d1 d2 d3
     go_wp2_with fail
     go_meet
     case rel=>exact ⟨true,rfl,H',H0_1,H1_1,H2_1,HB1⟩
    have e3 : (a0_1 == 100000)=false:=zY.mpr d3;rw [if_neg (fun h9=>h9.2.elim d2 d3)] at h;have H' : Aside0 ((if false=true then some (l0_0,a0_1,0,7) else ((F3.f k l0_0 a0_1).bind fun t=>(if pl<(t.1.length : Int)∧t.1.length≤1000000∧wrap64 (t.2+1)=t.2+1 then some (F2.out t.1 t.2 pl.toNat (rd_T67 t.1 pl).f0 (F2.row l a1_0 a1_1 im)) else none)))=some (r1,r2,r3,r4)):=⟨jBA⟩;clear h d1 d2 d3
    go_wp2_with fail
    go_meet
    case rel=>exact ⟨false,rfl,H',H0_1,H1_1,H2_1,HB1⟩
   case rest =>
    clear HH H0_1 H1_1 H2_1 HB1;obtain ⟨b8,rfl,HH,H0_3,H1_3,H2_3,HB3⟩:=hcut
    cases b8
    case true =>
     have h:=HH.out;rw [if_pos rfl] at h;simp only [Option.some.injEq,Prod.mk.injEq] at h;clear HH;obtain ⟨rfl,rfl,rfl,rfl⟩:=h;have k0:=zz H0_3.out 0;have k1:=zz H0_3.out 1;have k2:=zz H2_3.out 0;have k3:=zz H2_3.out 1;have f0:=zA H2_3.out 0;have f1:=zA H2_3.out 1
     go_wp2_with fail
     refine bodyPost_ret (results_ctt rfl _ _ g2 35 #[.slice (some ad) l0_0.length c0_0,.int .i64 a0_1] (0,0) _ rfl (blk_set (blk_set H2_3.out 0 (.slice (some ad) l0_0.length c0_0)) 1 (.int .i64 a0_1)) hu35 rfl jA) rfl ?_;exact ⟨_,rfl,Kd.V_mk hc0_0 (Kd.F_mono (Kd.F_far (p:=⟨g2,1,none⟩) (Kd.F_far (p:=⟨g2,0,none⟩) (Kd.F_below (Kd.F_bound HF0.out) HB3.out) (fun _ hk e9=>by rw [e9] at hk;exact Nat.lt_irrefl _ (Nat.lt_of_lt_of_le hk.2 GB2.out)) _) (fun _ hk e9=>by rw [e9] at hk;exact Nat.lt_irrefl _ (Nat.lt_of_lt_of_le hk.2 GB2.out)) _) (fun _ hk => .inl hk.1)),zd (zd HB3.out GB2.out) GB2.out⟩
    have h:=HH.out;rw [if_neg jB] at h;clear HH;obtain ⟨w3,rfl⟩ : ∃ w3,w3=wc:=⟨_,rfl⟩;obtain ⟨⟨T1,n1⟩,hT,h⟩:=zT.mp h;simp only at h
    by_cases hTb : pl<(T1.length : Int)∧T1.length≤1000000∧wrap64 (n1+1)=n1+1
    case neg=>rw [if_neg hTb] at h;cases h
    rw [if_pos hTb] at h;obtain ⟨hT1,hT2,hT3⟩:=hTb;have HO:=zh (zU h);have HT3 : Aside0 (IntKind.i64.wrap (n1+1)=n1+1):=⟨(zG _).trans hT3⟩;clear h hT3;have k0:=(zz H0_3.out 0).trans (show _=some (.slice (some ad) l0_0.length c0_0) from rfl);have k1:=(zz H0_3.out 1).trans (show _=some (.int .i64 a0_1) from rfl);have f0:=zA H0_3.out 0;have f1:=zA H0_3.out 1
    go_wp2_with fail
    go_at_call 43
    refine (F3.calls k (some ad) c0_0 l0_0 a0_1 T1 n1 w3 (Kd.F_now (Kd.F_below HF0.out HB3.out)) hc0_0 hT).mono ?_;rintro e w4 ⟨v4,rfl,hS4,hb_⟩;have HB4:=zh (zC HB3.out hb_);have H0_4:=zh (zD H0_3.out hb_);have H1_4:=zh (zD H1_3.out hb_);have H2_4:=zh (zD H2_3.out hb_);have L0 : Aside0 (g0<w3.heap.size):=⟨yi H0_3.out⟩;have L1 : Aside0 (g1<w3.heap.size):=⟨yi H1_3.out⟩;have L2 : Aside0 (g2<w3.heap.size):=⟨yi H2_3.out⟩;obtain ⟨g,cg,rfl,gb,gl,cg_,hg_⟩:=Kd.S_form hS4 jD;have HN4:=zh (Kd.N_mono (Kd.S_N (Kd.S_lower (Kd.S_bound hS4) HB3.out.size)) (ok':=fun k_=>w3.heap.size≤k_) (fun _ hk=>hk.2.1));have GG:=zh gb;clear k0 k1 f0 f1 hS4 hb_ hT HB3 H0_3 H1_3 H2_3 hg_;have k0:=zz H0_4.out 0;have k1:=zz H0_4.out 1;have f0:=zA H0_4.out 0;have f1:=zA H0_4.out 1
    go_wp2_with fail
    have HB5 : Aside0 (Below w.heap.size w ((w4.setCell ⟨g0,0,none⟩ (.slice (some ⟨g,0,none⟩) T1.length cg)).setCell ⟨g0,1,none⟩ (.int .i64 n1))):=⟨zd (zd HB4.out GB0.out) GB0.out⟩;have H0_5 : Aside0 (((w4.setCell ⟨g0,0,none⟩ (.slice (some ⟨g,0,none⟩) T1.length cg)).setCell ⟨g0,1,none⟩ (.int .i64 n1)).heap[g0]? = some (.cells #[.slice (some ⟨g,0,none⟩) T1.length cg,.int .i64 n1] 35 (0,0))):=⟨blk_set (blk_set H0_4.out 0 _) 1 _⟩;have H1_5 : Aside0 (((w4.setCell ⟨g0,0,none⟩ (.slice (some ⟨g,0,none⟩) T1.length cg)).setCell ⟨g0,1,none⟩ (.int .i64 n1)).heap[g1]? = some (.cells #[.string a1_0,.int .i64 a1_1] 51 (0,0))):=⟨(Below.heap_setCell _ ⟨g0,1,none⟩ _ g1 N10.out).trans ((Below.heap_setCell _ ⟨g0,0,none⟩ _ g1 N10.out).trans H1_4.out)⟩;have H2_5 : Aside0 (((w4.setCell ⟨g0,0,none⟩ (.slice (some ⟨g,0,none⟩) T1.length cg)).setCell ⟨g0,1,none⟩ (.int .i64 n1)).heap[g2]? = some (.cells #[.slice none 0 0,.int .i64 0] 35 (0,0))):=⟨(Below.heap_setCell _ ⟨g0,1,none⟩ _ g2 (Ne.symm N02.out)).trans ((Below.heap_setCell _ ⟨g0,0,none⟩ _ g2 (Ne.symm N02.out)).trans H2_4.out)⟩;have HN5 : Aside0 (Kd.N k67 67 ((w4.setCell ⟨g0,0,none⟩ (.slice (some ⟨g,0,none⟩) T1.length cg)).setCell ⟨g0,1,none⟩ (.int .i64 n1)) w.heap.size (fun k_=>w3.heap.size≤k_) (.slice (some ⟨g,0,none⟩) T1.length cg) T1):=⟨Kd.N_far (p:=⟨g0,1,none⟩) (Kd.N_far (p:=⟨g0,0,none⟩) HN4.out (fun _ hk e9=>by rw [e9] at hk;exact Nat.lt_irrefl _ (Nat.lt_of_lt_of_le L0.out hk)) _) (fun _ hk e9=>by rw [e9] at hk;exact Nat.lt_irrefl _ (Nat.lt_of_lt_of_le L0.out hk)) _⟩;have L35 : Aside0 (w3.heap.size≤((w4.setCell ⟨g0,0,none⟩ (.slice (some ⟨g,0,none⟩) T1.length cg)).setCell ⟨g0,1,none⟩ (.int .i64 n1)).heap.size):=⟨by simp;exact Nat.le_trans gb (Nat.le_of_lt gl)⟩;have GL5 : Aside0 (g<((w4.setCell ⟨g0,0,none⟩ (.slice (some ⟨g,0,none⟩) T1.length cg)).setCell ⟨g0,1,none⟩ (.int .i64 n1)).heap.size):=⟨by simpa using gl⟩;clear k0 k1 f0 f1 HB4 H0_4 H1_4 H2_4 HN4 gb gl;generalize ((w4.setCell ⟨g0,0,none⟩ (.slice (some ⟨g,0,none⟩) T1.length cg)).setCell ⟨g0,1,none⟩ (.int .i64 n1))=w5 at *;have hgw : w.heap.size≤g:=Nat.le_trans GB0.out (Nat.le_trans (Nat.le_of_lt L0.out) GG.out);have g0g : g0≠g:=fun e9=>Nat.lt_irrefl _ (Nat.lt_of_lt_of_le L0.out (e9 ▸ GG.out));have g1g : g1≠g:=fun e9=>Nat.lt_irrefl _ (Nat.lt_of_lt_of_le L1.out (e9 ▸ GG.out));have g2g : g2≠g:=fun e9=>Nat.lt_irrefl _ (Nat.lt_of_lt_of_le L2.out (e9 ▸ GG.out));have HGW:=zh hgw;have G0G:=zh g0g;have G1G:=zh g1g;have G2G:=zh g2g;clear hgw g0g g1g g2g;have hTp1:=eq_true hT1;have hKp0:=eq_true hK0;have HT1:=zh hT1;have HT2:=zh hT2;clear hT1 hT2
    go_wp2_with fail
    have hi4 : (0 : Int)≤(im : Int):=Int.natCast_nonneg im;have hi5 : (im : Int)≤(l.length : Int):=Int.ofNat_le.2 HIL.out;obtain ⟨i0_,hi0_,_,hsz_,_⟩:=info_parts info51;have hcut1:=cut_to (P:=Try.prog) 29 51 .i64 Try.underlying29 hi0_ Al l.length cl (im : Int) hi4 hi5 HLC.out;have hcut2:=cut_from (P:=Try.prog) 29 51 .i64 Try.underlying29 hi0_ 2 hsz_ Al l.length cl (im : Int) hi4 hi5;rw [Int.toNat_natCast] at hcut1 hcut2;have hC1:=Kd.F_imp HFl.out (fun _ hC=>Kd.C_take (m:=im) hC HIL.out);have hC2:=Kd.F_imp HFl.out (fun _ hC=>Kd.C_drop (c:=cl) (m:=im) hC HIL.out HLC.out);rw [zx,Nat.min_eq_left HIL.out] at hC1;rw [zw] at hC2;obtain ⟨A2,hA2⟩ : ∃ A2,A2=(if cl=im then Al else Al.map (·.add (im*2))):=⟨_,rfl⟩;rw [← hA2] at hcut2;replace hC2 : Kd.F k51 w (fun k_=>P0_0_ k_) A2 (l.length - im) (l.drop im):=by rw [hA2];exact hC2
    have HC1:=zh hC1;have HC2:=zh hC2;clear hC1 hC2 hA2 hi0_ hsz_;have HB7:=zh (zc HB5.out);have H0_7:=zh (zf H0_5.out);have H1_7:=zh (zf H1_5.out);have H2_7:=zh (zf H2_5.out);have HN7:=zh (Kd.N_drew HN5.out);have L37 : Aside0 (w3.heap.size≤w5.drew.heap.size):=L35;have GL7 : Aside0 (g<w5.drew.heap.size):=GL5;refine start_ (n:=13) (S:=fun w' => w'.cell? ⟨g1,0,none⟩=some (.string a1_0)∧w'.cell? ⟨g1,1,none⟩=some (.int .i64 a1_1)) (ds:=[]) (bm_ 0 13) jA rfl rfl ⟨(zz H1_7.out 0).trans rfl,(zz H1_7.out 1).trans rfl⟩ (fun hHeld=>?_);generalize w5.drew=w7 at HB7 H0_7 H1_7 H2_7 HN7 L37 GL7 hHeld ⊢;clear HB5 H0_5 H1_5 H2_5 HN5 L35 GL5;refine pure_ (i:=1) (N:=some 66) (v:=?_) (a':=?_) #[false,true,false,false,false,false,false,false,false,false,false,false,false] rfl rfl jA (fun _ _ _ h=>h) (Or.inl ⟨by rfl,?_⟩) ?_ ?_;rotate_left;exact jb;rotate_left;exact jc
    refine pure_ (i:=2) (N:=some 67) (v:=?_) (a':=?_) #[false,true,true,false,false,false,false,false,false,false,false,false,false] rfl rfl jA (fun _ _ _ h=>h) (Or.inl ⟨by rfl,?_⟩) ?_ ?_;rotate_left;exact jb;rotate_left;exact jc
    refine pure_ (i:=3) (N:=some 68) (v:=?_) (a':=?_) #[false,true,true,true,false,false,false,false,false,false,false,false,false] rfl rfl jA (fun _ _ _ h=>h) (Or.inl ⟨by rfl,?_⟩) ?_ ?_;rotate_left;exact jb;rotate_left;exact jc
    refine pure_ (i:=8) (N:=some 73) (v:=?_) (a':=?_) #[false,true,true,true,false,false,false,false,true,false,false,false,false] rfl rfl jA (fun _ _ _ h=>h) (Or.inl ⟨by rfl,?_⟩) ?_ ?_;rotate_left;exact jb;rotate_left;exact jc
    refine pure_ (i:=9) (N:=some 74) (v:=?_) (a':=?_) #[false,true,true,true,false,false,false,false,true,true,false,false,false] rfl rfl jA (fun _ _ _ h=>h) (Or.inl ⟨by rfl,?_⟩) ?_ ?_;rotate_left;exact jb;rotate_left;exact jc
    refine pure_ (i:=10) (N:=some 75) (v:=?_) (a':=?_) #[false,true,true,true,false,false,false,false,true,true,true,false,false] rfl rfl jA (fun _ _ _ h=>h) (Or.inl ⟨by rfl,?_⟩) ?_ ?_;rotate_left;exact jb;rotate_left;exact jc
    refine take_ (i:=5) (N:=some 70) (v:=?_) (a':=?_) #[false,true,true,true,false,true,false,false,true,true,true,false,false] rfl rfl jA (fun _ _ _ h=>h) (Or.inl ⟨by rfl,?_⟩) hHeld ?_ ?_;rotate_left
    ·
     rintro w' ⟨s0,s1⟩
     go_simp
     with_reducible rfl
    rotate_left
    exact jc
    refine join_ (σ:=Value×Value×(Option Addr×Nat)) 3 #[true,true,true,true,true,true,true,false,true,true,true,false,false] (fun s => [(65,s.1),(69,s.2.1),(71,.slice s.2.2.1 1 s.2.2.2)]) (fun s w' => Kd.R k51 51 w' w7.heap.size (fun _=>True) s.2.1 ([]++l.take im)∧Kd.C k51 w' s.2.2.1 1 [(⟨a1_0,a1_1⟩ : S51)]∧Below w7.heap.size w7 w') ?_ ?_;rotate_left
    ·
     intro hCont
     refine two_ (i:=0) (j:=6) (Ni:=some 65) (Nj:=some 71) #[true,true,true,true,false,true,false,false,true,true,true,false,false] #[false,true,true,true,false,true,true,false,true,true,true,false,false] rfl rfl rfl rfl jA jB jB (fun K hK=>?_) (fun K hK=>?_)
     ·
      skip
      refine Kd.R_lit_step k51 _ 51 ?hg (N:=65) ?hd (xs:=([] : List (S51))) (inner:=[]) (ok:=fun _=>True) (okp:=fun _=>True) ?hr ?hp (fun _ hk=>hk) trivial (Below.refl _ _) (ye _) (by simp) ?_;(case hd=>rfl);(case hg=>rfl);(case hr=>go_simp <;> rfl);(case hp=>exact (Reps.none _ _));intro va wa hRa hba_ hga_ hna_;clear hga_ hna_;have hb0:=zC (Below.refl w7.heap.size w7) hba_;refine hK.out _ _ ⟨(zz (zD H1_7.out hb0) 0).trans rfl,(zz (zD H1_7.out hb0) 1).trans rfl⟩ (fun hHeld=>?_);clear hK K;refine norm_ (a':=?_) ?_ ?_;rotate_left
      ·
       show Act.put _ (some 65) _=_
       simp only [Act.put,zi,zj,zk,zG,zH]
       rfl
      refine two_ (i:=4) (j:=6) (Ni:=some 69) (Nj:=some 71) #[true,true,true,true,true,true,false,false,true,true,true,false,false] #[true,true,true,true,false,true,true,false,true,true,true,false,false] rfl rfl rfl rfl jA jB jB (fun K hK=>?_) (fun K hK=>?_)
      ·
       skip
       refine Kd.R_append_rows_step k51 (w0:=w7) w7.heap.size (by rfl) (.tmp 65) (.tmp 68) 29 51 (.agg #[(.string ⟨#[]⟩),(.int .i64 0)]) 24 rfl Try.underlying29 info51 rfl jB jB va ([] : List (S51)) (l.take im) Al im cl (fun _=>True) (fun _=>False) (by rfl) (by rfl) (yx hRa (ye _)) (Kd.F_now (Kd.F_below HC1.out (zC HB7.out hb0))) (fun x cs h9=>F2.K_M x cs h9) (fun _ h9=>h9.elim) (fun _ _=>trivial) hb0 hb0.size jAJ ?_;intro vb wb hRb hb4 hg4 hat4;refine hK.out _ _ ⟨(zz (zD H1_7.out hb4) 0).trans rfl,(zz (zD H1_7.out hb4) 1).trans rfl⟩ (fun hHeld=>?_);clear hK K;refine norm_ (a':=?_) ?_ ?_;rotate_left
       ·
        show Act.put _ (some 69) _=_
        simp only [Act.put,zi,zj,zk,zG,zH]
        rfl
       refine one_ (i:=6) (N:=some 71) #[true,true,true,true,true,true,true,false,true,true,true,false,false] rfl rfl jA jB (fun K hK=>?_);refine Kd.R_lit_step k51 _ 51 ?hg (N:=71) ?hd (xs:=[(⟨a1_0,a1_1⟩ : S51)]) (inner:=[.string a1_0,.int .i64 a1_1]) (ok:=fun _=>True) (okp:=fun _=>True) ?hr ?hp (fun _ hk=>hk) trivial (Below.refl _ _) (ye _) (by simp) ?_;(case hd=>rfl);(case hg=>rfl);(case hr=>go_simp <;> rfl);(case hp=>exact (Go.Proofs.Ytamikhmpfmgofaa.Row.reps_one (k51_mkM _ _ _ (⟨a1_0,a1_1⟩ : S51)) rfl));intro vl wl hRl hbl_ hga_ hna_;clear hga_ hna_;obtain ⟨Ax,cx,hvl⟩:=yk hRl;replace hvl : vl = .slice Ax 1 cx:=hvl;subst hvl;have hb6:=zC hb4 hbl_;refine hK.out _ _ ⟨(zz (zD H1_7.out hb6) 0).trans rfl,(zz (zD H1_7.out hb6) 1).trans rfl⟩ (fun hHeld=>?_);clear hK K;refine norm_ (a':=?_) ?_ ?_;rotate_left
       ·
        show Act.put _ (some 71) _=_
        simp only [Act.put,zi,zj,zk,zG,zH]
        rfl
       exact norm_ jM (hCont (va,vb,(Ax,cx)) _ ⟨yg hRb hbl_,(yh hRl).2.2,hb6⟩)
      skip
      refine Kd.R_lit_step k51 _ 51 ?hg (N:=71) ?hd (xs:=[(⟨a1_0,a1_1⟩ : S51)]) (inner:=[.string a1_0,.int .i64 a1_1]) (ok:=fun _=>True) (okp:=fun _=>True) ?hr ?hp (fun _ hk=>hk) trivial (Below.refl _ _) (ye _) (by simp) ?_;(case hd=>rfl);(case hg=>rfl);(case hr=>go_simp <;> rfl);(case hp=>exact (Go.Proofs.Ytamikhmpfmgofaa.Row.reps_one (k51_mkM _ _ _ (⟨a1_0,a1_1⟩ : S51)) rfl));intro vl wl hRl hbl_ hga_ hna_;clear hga_ hna_;obtain ⟨Ax,cx,hvl⟩:=yk hRl;replace hvl : vl = .slice Ax 1 cx:=hvl;subst hvl;have hb6:=zC hb0 hbl_;refine hK.out _ _ ⟨(zz (zD H1_7.out hb6) 0).trans rfl,(zz (zD H1_7.out hb6) 1).trans rfl⟩ (fun hHeld=>?_);clear hK K;refine norm_ (a':=?_) ?_ ?_;rotate_left
      ·
       show Act.put _ (some 71) _=_
       simp only [Act.put,zi,zj,zk,zG,zH]
       rfl
      refine one_ (i:=4) (N:=some 69) #[true,true,true,true,true,true,true,false,true,true,true,false,false] rfl rfl jA jB (fun K hK=>?_);refine Kd.R_append_rows_step k51 (w0:=w7) w7.heap.size (by rfl) (.tmp 65) (.tmp 68) 29 51 (.agg #[(.string ⟨#[]⟩),(.int .i64 0)]) 24 rfl Try.underlying29 info51 rfl jB jB va ([] : List (S51)) (l.take im) Al im cl (fun _=>True) (fun _=>False) (by rfl) (by rfl) (yg (yx hRa (ye _)) hbl_) (Kd.F_now (Kd.F_below HC1.out (zC HB7.out hb6))) (fun x cs h9=>F2.K_M x cs h9) (fun _ h9=>h9.elim) (fun _ _=>trivial) hb6 hb6.size jAJ ?_;intro vb wb hRb hb4 hg4 hat4;refine hK.out _ _ ⟨(zz (zD H1_7.out hb4) 0).trans rfl,(zz (zD H1_7.out hb4) 1).trans rfl⟩ (fun hHeld=>?_);clear hK K;refine norm_ (a':=?_) ?_ ?_;rotate_left
      ·
       show Act.put _ (some 69) _=_
       simp only [Act.put,zi,zj,zk,zG,zH]
       rfl
      exact norm_ jM (hCont (va,vb,(Ax,cx)) _ ⟨hRb,(yh (Kd.R_grown (Kd.R_bound hRl) hg4 (fun k_ hk he=>Nat.lt_irrefl _ (Nat.lt_of_lt_of_le (Kd.R_lt hRa k_ he.symm) hk.2.1)))).2.2,hb4⟩)
     skip
     refine Kd.R_lit_step k51 _ 51 ?hg (N:=71) ?hd (xs:=[(⟨a1_0,a1_1⟩ : S51)]) (inner:=[.string a1_0,.int .i64 a1_1]) (ok:=fun _=>True) (okp:=fun _=>True) ?hr ?hp (fun _ hk=>hk) trivial (Below.refl _ _) (ye _) (by simp) ?_;(case hd=>rfl);(case hg=>rfl);(case hr=>go_simp <;> rfl);(case hp=>exact (Go.Proofs.Ytamikhmpfmgofaa.Row.reps_one (k51_mkM _ _ _ (⟨a1_0,a1_1⟩ : S51)) rfl));intro vl wl hRl hbl_ hga_ hna_;clear hga_ hna_;obtain ⟨Ax,cx,hvl⟩:=yk hRl;replace hvl : vl = .slice Ax 1 cx:=hvl;subst hvl;have hb6:=zC (Below.refl w7.heap.size w7) hbl_;refine hK.out _ _ ⟨(zz (zD H1_7.out hb6) 0).trans rfl,(zz (zD H1_7.out hb6) 1).trans rfl⟩ (fun hHeld=>?_);clear hK K;refine norm_ (a':=?_) ?_ ?_;rotate_left
     ·
      show Act.put _ (some 71) _=_
      simp only [Act.put,zi,zj,zk,zG,zH]
      rfl
     refine one_ (i:=0) (N:=some 65) #[true,true,true,true,false,true,true,false,true,true,true,false,false] rfl rfl jA jB (fun K hK=>?_);refine Kd.R_lit_step k51 _ 51 ?hg (N:=65) ?hd (xs:=([] : List (S51))) (inner:=[]) (ok:=fun _=>True) (okp:=fun _=>True) ?hr ?hp (fun _ hk=>hk) trivial (Below.refl _ _) (ye _) (by simp) ?_;(case hd=>rfl);(case hg=>rfl);(case hr=>go_simp <;> rfl);(case hp=>exact (Reps.none _ _));intro va wa hRa hba_ hga_ hna_;clear hga_ hna_;have hb0:=zC hb6 hba_;refine hK.out _ _ ⟨(zz (zD H1_7.out hb0) 0).trans rfl,(zz (zD H1_7.out hb0) 1).trans rfl⟩ (fun hHeld=>?_);clear hK K;refine norm_ (a':=?_) ?_ ?_;rotate_left
     ·
      show Act.put _ (some 65) _=_
      simp only [Act.put,zi,zj,zk,zG,zH]
      rfl
     refine one_ (i:=4) (N:=some 69) #[true,true,true,true,true,true,true,false,true,true,true,false,false] rfl rfl jA jB (fun K hK=>?_);refine Kd.R_append_rows_step k51 (w0:=w7) w7.heap.size (by rfl) (.tmp 65) (.tmp 68) 29 51 (.agg #[(.string ⟨#[]⟩),(.int .i64 0)]) 24 rfl Try.underlying29 info51 rfl jB jB va ([] : List (S51)) (l.take im) Al im cl (fun _=>True) (fun _=>False) (by rfl) (by rfl) (yx hRa hb6.size) (Kd.F_now (Kd.F_below HC1.out (zC HB7.out hb0))) (fun x cs h9=>F2.K_M x cs h9) (fun _ h9=>h9.elim) (fun _ _=>trivial) hb0 hb0.size jAJ ?_;intro vb wb hRb hb4 hg4 hat4;refine hK.out _ _ ⟨(zz (zD H1_7.out hb4) 0).trans rfl,(zz (zD H1_7.out hb4) 1).trans rfl⟩ (fun hHeld=>?_);clear hK K;refine norm_ (a':=?_) ?_ ?_;rotate_left
     ·
      show Act.put _ (some 69) _=_
      simp only [Act.put,zi,zj,zk,zG,zH]
      rfl
     exact norm_ jM (hCont (va,vb,(Ax,cx)) _ ⟨hRb,(yh (Kd.R_grown (yg (Kd.R_bound hRl) hba_) hg4 (fun k_ hk he=>Nat.lt_irrefl _ (Nat.lt_of_lt_of_le hk.2.2.1 (Kd.R_base hRa k_ he.symm))))).2.2,hb4⟩)
    rintro ⟨va,vb,Ax,cx⟩ wt ⟨hRb,hCl,hbt⟩;have hHeld : wt.cell? ⟨g1,0,none⟩=some (.string a1_0)∧wt.cell? ⟨g1,1,none⟩=some (.int .i64 a1_1):=⟨(zz (zD H1_7.out hbt) 0).trans rfl,(zz (zD H1_7.out hbt) 1).trans rfl⟩;refine norm_ (a':=?_) ?_ ?_;rotate_left
    ·
     simp only [putAll,Act.put,zi,zj,zk]
     rfl
    refine one_ (i:=7) (N:=some 72) (bm_ 11 13) rfl rfl jA jB (fun K hK=>?_);refine Kd.R_append_rows_step k51 (w0:=w7) w7.heap.size (by rfl) (.tmp 69) (.tmp 71) 29 51 (.agg #[(.string ⟨#[]⟩),(.int .i64 0)]) 24 rfl Try.underlying29 info51 rfl jB jB vb ([]++l.take im) [(⟨a1_0,a1_1⟩ : S51)] Ax 1 cx (fun _=>True) (fun _=>False) (by rfl) (by rfl) hRb hCl (fun x cs h9=>F2.K_M x cs h9) (fun _ h9=>h9.elim) (fun _ _=>trivial) hbt hbt.size jAJ ?_;intro vd wd hRd hbd hg_ hat_;clear hg_ hat_;refine hK.out _ _ ⟨(zz (zD H1_7.out hbd) 0).trans rfl,(zz (zD H1_7.out hbd) 1).trans rfl⟩ (fun hHeld=>?_);clear hK K;refine norm_ (a':=?_) ?_ ?_;rotate_left
    ·
     show Act.put _ (some 72) _=_
     simp only [Act.put,zi,zj,zk,zG,zH]
     rfl
    refine one_ (i:=11) (N:=some 76) (bm_ 12 13) rfl rfl jA jB (fun K hK=>?_);refine Kd.R_append_rows_step k51 (w0:=w7) w7.heap.size (by rfl) (.tmp 72) (.tmp 75) 29 51 (.agg #[(.string ⟨#[]⟩),(.int .i64 0)]) 24 rfl Try.underlying29 info51 rfl jB jB vd (([]++l.take im) ++ [(⟨a1_0,a1_1⟩ : S51)]) (l.drop im) A2 (l.length - im) (cl - im) (fun _=>True) (fun _=>False) (by rfl) (by rfl) hRd (Kd.F_now (Kd.F_below HC2.out (zC HB7.out hbd))) (fun x cs h9=>F2.K_M x cs h9) (fun _ h9=>h9.elim) (fun _ _=>trivial) hbd hbd.size jAJ ?_;intro ve we hRe hbe hg_ hat_;clear hg_ hat_;obtain ⟨X,hX⟩ : ∃ X : List (S51),X=(([]++l.take im) ++ [(⟨a1_0,a1_1⟩ : S51)])++l.drop im:=⟨_,rfl⟩;rw [← hX] at hRe;have HX:=zh hX;clear hX;obtain ⟨Ac,cc,rfl⟩:=yk hRe;refine hK.out _ _ ⟨(zz (zD H1_7.out hbe) 0).trans rfl,(zz (zD H1_7.out hbe) 1).trans rfl⟩ (fun hHeld=>?_);clear hK K;refine norm_ (a':=?_) ?_ ?_;rotate_left
    ·
     show Act.put _ (some 76) _=_
     simp only [Act.put,zi,zj,zk,zG,zH]
     rfl
    refine pure_ (i:=12) (N:=some 8) (v:=?_) (a':=?_) (bm_ 13 13) rfl rfl jA (fun _ _ _ h=>h) (Or.inl ⟨by rfl,?_⟩) ?_ ?_;rotate_left;exact jb;rotate_left;exact jc
    refine done_ jA ?_;have hFe : Kd.F k51 we (fun k_=>w7.heap.size≤k_) Ac X.length X:=Kd.F_mono (Kd.R_F (Kd.R_bound hRe)) (fun _ hk=>hk.2.1);have hXc : X.length≤cc:=(yh hRe).2.1;obtain ⟨ce,hcl_,hFK_,hcc_,hfr_⟩:=Kd.N_elem (Kd.N_below HN7.out hbe) z67 pl hK0 HT1.out;obtain ⟨A9,c9,rfl,-,-⟩:=k67_openF hFK_;have q9 : we.cell? ⟨g,pl.toNat*2+1,none⟩=some (.slice A9 (rd_T67 T1 pl).f1.length c9):=hcc_ 1 _ rfl;have f9 : we.frozen? ⟨g,pl.toNat*2+1,none⟩=false:=hfr_ 1;have k0:=(zz (zD H0_7.out hbe) 0).trans (show _=some (.slice (some ⟨g,0,none⟩) T1.length cg) from rfl)
    obtain ⟨hN8,hG8⟩ : Kd.N k67 67 (we.setCell ⟨g,pl.toNat*2+1,none⟩ (.slice Ac X.length cc)) w.heap.size (fun k_=>w3.heap.size≤k_) (.slice (some ⟨g,0,none⟩) T1.length cg) (T1.set pl.toNat (⟨(rd_T67 T1 pl).f0,X⟩ : S67))∧we.grownBy (we.setCell ⟨g,pl.toNat*2+1,none⟩ (.slice Ac X.length cc)) (some g) :=
     Kd.N_seg (Kd.N_below HN7.out hbe) pl hK0 HT1.out (c:=[.int .i64 (rd_T67 T1 pl).f0,.slice A9 (rd_T67 T1 pl).f1.length c9]) (seg:=[.slice Ac X.length cc]) (j:=1) rfl hcc_ (show 1+1≤2 from by decide) (x':=(⟨(rd_T67 T1 pl).f0,X⟩ : S67)) (okp:=fun k_=>w7.heap.size≤k_) (k67_mkF we _ (⟨(rd_T67 T1 pl).f0,X⟩ : S67) hXc hFe) (fun k_ hk=>⟨Nat.le_trans L37.out hk,fun e9=>by rw [e9] at hk;exact Nat.lt_irrefl _ (Nat.lt_of_lt_of_le GL7.out hk)⟩)
    have HN8:=zh hN8;have HXC:=zh hXc;have HFX : Aside0 (Kd.F k51 (we.setCell ⟨g,pl.toNat*2+1,none⟩ (.slice Ac X.length cc)) (fun k_=>w7.heap.size≤k_) Ac X.length X):=⟨Kd.F_far (p:=⟨g,_,none⟩) hFe (fun k_ hk e9=>by rw [e9] at hk;exact Nat.lt_irrefl _ (Nat.lt_of_lt_of_le GL7.out hk)) _⟩;have HB8 : Aside0 (Below w.heap.size w (we.setCell ⟨g,pl.toNat*2+1,none⟩ (.slice Ac X.length cc))):=⟨zd (zC HB7.out hbe) HGW.out⟩;have H0_8 : Aside0 ((we.setCell ⟨g,pl.toNat*2+1,none⟩ (.slice Ac X.length cc)).heap[g0]? = some (.cells #[.slice (some ⟨g,0,none⟩) T1.length cg,.int .i64 n1] 35 (0,0))):=⟨(Below.heap_setCell _ ⟨g,_,none⟩ _ g0 G0G.out).trans (zD H0_7.out hbe)⟩;have H2_8 : Aside0 ((we.setCell ⟨g,pl.toNat*2+1,none⟩ (.slice Ac X.length cc)).heap[g2]? = some (.cells #[.slice none 0 0,.int .i64 0] 35 (0,0))):=⟨(Below.heap_setCell _ ⟨g,_,none⟩ _ g2 G2G.out).trans (zD H2_7.out hbe)⟩;have L78 : Aside0 (w7.heap.size≤(we.setCell ⟨g,pl.toNat*2+1,none⟩ (.slice Ac X.length cc)).heap.size):=⟨by simp;exact hbe.size⟩
    go_upto_region 13 with (fail)
    clear hcut1 hcut2 hN8 hG8 hFe hXc hRb hRd hRe hbt hbd hbe hCl hcl_ hFK_ hcc_ hfr_ q9 f9 k0 HB7 H0_7 H1_7 H2_7 HN7;generalize (we.setCell ⟨g,pl.toNat*2+1,none⟩ (.slice Ac X.length cc))=w8 at *;have hO:=HO.out;have hXe : F2.row l a1_0 a1_1 im=X:=by rw [HX.out];rfl
    rw [hXe] at hO;unfold F2.out at hO;clear hXe
    by_cases hX4 : X.length≤4
    ·
     rw [if_pos hX4] at hO
     simp only [Prod.mk.injEq] at hO;obtain ⟨hY,rfl,rfl,rfl⟩:=hO;have c5 : decide ((X.length : Int)≤4)=true:=decide_eq_true jD;have c5n : decide (X.length≤4)=true:=decide_eq_true hX4;have k0:=zz H0_8.out 0;have k1:=zz H0_8.out 1;have k2:=zz H2_8.out 0;have k3:=zz H2_8.out 1;have f0:=zA H2_8.out 0;have f1:=zA H2_8.out 1;have HV8:=zh (Kd.N_V (base':=w.heap.size) HN8.out);rw [hY] at HV8;clear hY hX4
     go_wp2_with fail
     refine bodyPost_ret (results_ctt rfl _ _ g2 35 #[.slice (some ⟨g,0,none⟩) T1.length cg,.int .i64 n1] (0,0) _ rfl (blk_set (blk_set H2_8.out 0 (.slice (some ⟨g,0,none⟩) T1.length cg)) 1 (.int .i64 n1)) hu35 rfl jA) rfl ?_;exact ⟨_,rfl,Kd.V_mono (Kd.V_far (p:=⟨g2,1,none⟩) (Kd.V_far (p:=⟨g2,0,none⟩) HV8.out (fun _ hk e9=>by rw [e9] at hk;exact Nat.lt_irrefl _ (Nat.lt_of_lt_of_le L2.out hk)) _) (fun _ hk e9=>by rw [e9] at hk;exact Nat.lt_irrefl _ (Nat.lt_of_lt_of_le L2.out hk)) _) (fun _ hk => .inr (Nat.le_trans GB0.out (Nat.le_trans (Nat.le_of_lt L0.out) hk))),zd (zd HB8.out GB2.out) GB2.out⟩
    rw [if_neg hX4] at hO;simp only [Prod.mk.injEq] at hO;obtain ⟨hr1,rfl,rfl,rfl⟩:=hO;have HR1:=zh hr1;have c5 : decide ((X.length : Int)≤4)=false:=decide_eq_false jD;have c5n : decide (X.length≤4)=false:=decide_eq_false hX4;obtain ⟨hf,hhf⟩ : ∃ hf : Nat,hf=X.length / 2:=⟨_,rfl⟩;have hq1 : (X.length : Int) / 2=(hf : Int):=by rw [hhf];omega
    have hq2 : Int.tdiv (X.length : Int) 2=(hf : Int):=by rw [Int.tdiv_eq_ediv_of_nonneg (Int.natCast_nonneg _)];exact hq1
    have hfl : hf≤X.length:=by rw [hhf];exact Nat.div_le_self _ _
    have HHF:=zh hhf;have HFL:=zh hfl
    have hq3 : wrap64 (hf : Int)=(hf : Int):=by
     have h8 : X.length≤1000001:=by rw [HX.out];have:=HLM.out.2;have:=HIL.out;simp;omega
     have h9 : hf≤1000001:=Nat.le_trans hfl h8;unfold wrap64;omega
    have XL : Aside0 (X.length≤1000001):=⟨by rw [HX.out];have:=HLM.out.2;have:=HIL.out;simp;omega⟩;clear hr1 hX4 hhf hfl
    go_wp2_with fail
    (first|rw [hq3]|simp only [hq3]);clear hq1 hq2 hq3 c5 c5n;have hi4 : (0 : Int)≤(hf : Int):=Int.natCast_nonneg hf;have hi5 : (hf : Int)≤(X.length : Int):=Int.ofNat_le.2 HFL.out;obtain ⟨i0_,hi0_,_,hsz_,_⟩:=info_parts info51;have hcut1:=cut_to (P:=Try.prog) 29 51 .i64 Try.underlying29 hi0_ Ac X.length cc (hf : Int) hi4 hi5 HXC.out;have hcut2:=cut_from (P:=Try.prog) 29 51 .i64 Try.underlying29 hi0_ 2 hsz_ Ac X.length cc (hf : Int) hi4 hi5;rw [Int.toNat_natCast] at hcut1 hcut2;obtain ⟨A2,hA2⟩ : ∃ A2,A2=(if cc=hf then Ac else Ac.map (·.add (hf*2))):=⟨_,rfl⟩;rw [← hA2] at hcut2;have HA2:=zh hA2;have hC1:=Kd.F_imp HFX.out (fun _ hC=>Kd.C_take (m:=hf) hC HFL.out);rw [zx,Nat.min_eq_left HFL.out] at hC1;have HC1:=zh (Kd.F_drew hC1);have HFX9:=zh (Kd.F_drew HFX.out);have HB9:=zh (zc HB8.out);have H0_9:=zh (zf H0_8.out);have H2_9:=zh (zf H2_8.out);have HN9:=zh (Kd.N_drew HN8.out);have L79 : Aside0 (w7.heap.size≤w8.drew.heap.size):=L78;have HYL : Aside0 ((T1.set pl.toNat (⟨(rd_T67 T1 pl).f0,X⟩ : S67)).length=T1.length):=⟨by rw [List.length_set]⟩;clear hC1 hA2 hi0_ hsz_;refine start_ (n:=11) (S:=fun w' => w'.cell? ⟨g0,0,none⟩=some (.slice (some ⟨g,0,none⟩) T1.length cg)) (ds:=[10]) (bm_ 0 11) jA rfl rfl ((zz H0_9.out 0).trans rfl) (fun hHeld=>?_);generalize w8.drew=w9 at HB9 H0_9 H2_9 HN9 HC1 HFX9 L79 hHeld ⊢;clear HB8 H0_8 H2_8 HN8 HFX L78;refine pure_ (i:=0) (N:=some 90) (v:=?_) (a':=?_) (bm_ 1 11) rfl rfl jA (fun _ _ _ h=>h) (Or.inl ⟨by rfl,?_⟩) ?_ ?_;rotate_left;exact jb;rotate_left;exact jc
    refine pure_ (i:=2) (N:=some 92) (v:=?_) (a':=?_) #[true,false,true,false,false,false,false,false,false,false,false] rfl rfl jA (fun _ _ _ h=>h) (Or.inl ⟨by rfl,?_⟩) ?_ ?_;rotate_left;exact jb;rotate_left;exact jc
    refine pure_ (i:=4) (N:=some 94) (v:=?_) (a':=?_) #[true,false,true,false,true,false,false,false,false,false,false] rfl rfl jA (fun _ _ _ h=>h) (Or.inl ⟨by rfl,?_⟩) ?_ ?_;rotate_left;exact jb;rotate_left;exact jc
    refine pure_ (i:=5) (N:=some 95) (v:=?_) (a':=?_) #[true,false,true,false,true,true,false,false,false,false,false] rfl rfl jA (fun _ _ _ h=>h) (Or.inl ⟨by rfl,?_⟩) ?_ ?_;rotate_left;exact jb;rotate_left;exact jc
    refine pure_ (i:=6) (N:=some 96) (v:=?_) (a':=?_) #[true,false,true,false,true,true,true,false,false,false,false] rfl rfl jA (fun _ _ _ h=>h) (Or.inl ⟨by rfl,?_⟩) ?_ ?_;rotate_left;exact jb;rotate_left;exact jc
    refine take_ (i:=1) (N:=some 91) (v:=?_) (a':=?_) #[true,true,true,false,true,true,true,false,false,false,false] rfl rfl jA (fun _ _ _ h=>h) (Or.inl ⟨by rfl,?_⟩) hHeld ?_ ?_;rotate_left
    ·
     intro w' s0
     go_simp
     with_reducible rfl
    rotate_left
    exact jc
    refine one_ (i:=3) (N:=some 93) (bm_ 7 11) rfl rfl jA jB (fun K hK=>?_);refine Kd.R_lit_step k51 _ 51 ?hg (N:=93) ?hd (xs:=([] : List (S51))) (inner:=[]) (ok:=fun _=>True) (okp:=fun _=>True) ?hr ?hp (fun _ hk=>hk) trivial (Below.refl _ _) (ye _) (by simp) ?_;(case hd=>rfl);(case hg=>rfl);(case hr=>go_simp <;> rfl);(case hp=>exact (Reps.none _ _));intro va wa hRa hba hga_ hna_;clear hga_ hna_;refine hK.out _ _ ((zz (zD H0_9.out hba) 0).trans rfl) (fun hHeld=>?_);clear hK K;refine norm_ (a':=?_) ?_ ?_;rotate_left
    ·
     show Act.put _ (some 93) _=_
     simp only [Act.put,zi,zj,zk,zG,zH]
     rfl
    refine one_ (i:=7) (N:=some 97) (bm_ 8 11) rfl rfl jA jB (fun K hK=>?_);refine Kd.R_append_rows_step k51 (w0:=w9) w9.heap.size (by rfl) (.tmp 93) (.tmp 96) 29 51 (.agg #[(.string ⟨#[]⟩),(.int .i64 0)]) 24 rfl Try.underlying29 info51 rfl jB jB va ([] : List (S51)) (X.take hf) Ac hf cc (fun _=>True) (fun _=>False) (by rfl) (by rfl) hRa (Kd.F_now (Kd.F_below HC1.out hba)) (fun x cs h9=>F2.K_M x cs h9) (fun _ h9=>h9.elim) (fun _ _=>trivial) hba hba.size jAd ?_;intro vb wb hRb hbb hg_ hat_;clear hg_ hat_;obtain ⟨X1,hX1⟩ : ∃ X1 : List (S51),X1=[]++X.take hf:=⟨_,rfl⟩;rw [← hX1] at hRb;have HX1:=zh hX1;clear hX1;obtain ⟨Am,cm,rfl⟩:=yk hRb;obtain ⟨ce,hcl_,hFK_,hcc_,hfr_⟩:=Kd.N_elem (Kd.N_below HN9.out hbb) z67 pl hK0 HT1.out;obtain ⟨A9,c9,rfl,-,-⟩:=k67_openF hFK_;have q9 : wb.cell? ⟨g,pl.toNat*2+1,none⟩=some (.slice A9 (rd_T67 (T1.set pl.toNat (⟨(rd_T67 T1 pl).f0,X⟩ : S67)) pl).f1.length c9):=hcc_ 1 _ rfl;have f9 : wb.frozen? ⟨g,pl.toNat*2+1,none⟩=false:=hfr_ 1;refine hK.out _ _ ((zz (zD H0_9.out hbb) 0).trans rfl) (fun hHeld=>?_);clear hK K;refine norm_ (a':=?_) ?_ ?_;rotate_left
    ·
     show Act.put _ (some 97) _=_
     simp only [Act.put,zi,zj,zk,zG,zH]
     rfl
    refine pure_ (i:=8) (N:=some 98) (v:=?_) (a':=?_) (bm_ 9 11) rfl rfl jA (fun _ _ _ h=>h) (Or.inl ⟨by rfl,?_⟩) ?_ ?_;rotate_left;exact jb;rotate_left;exact jc
    refine pure_ (i:=9) (N:=some 99) (v:=?_) (a':=?_) (bm_ 10 11) rfl rfl jA (fun _ _ _ h=>h) (Or.inl ⟨by rfl,?_⟩) ?_ ?_;rotate_left;exact jb;rotate_left;exact jc
    refine last_ (i:=10) (N:=none) (bm_ 11 11) rfl rfl jA jB (fun K hK=>?_);refine skip_ (w1:=?_) (by rfl) rfl ?_ ?_;rotate_left
    ·
     go_simp
     rfl
    refine hK.out _ _ ?_;clear hK K;refine done_ jA ?_;have hFe : Kd.F k51 wb (fun k_=>w9.heap.size≤k_) Am X1.length X1:=Kd.F_mono (Kd.R_F (Kd.R_bound hRb)) (fun _ hk=>hk.2.1);have hXc : X1.length≤cm:=(yh hRb).2.1
    have erd : rd_T67 (T1.set pl.toNat (⟨(rd_T67 T1 pl).f0,X⟩ : S67)) pl=(⟨(rd_T67 T1 pl).f0,X⟩ : S67):=by
     have:=HT1.out;unfold rd_T67;rw [List.getD_eq_getElem?_getD,List.getElem?_set_self jD];rfl
    obtain ⟨hN8,hG8⟩ : Kd.N k67 67 (wb.setCell ⟨g,pl.toNat*2+1,none⟩ (.slice Am X1.length cm)) w.heap.size (fun k_=>w3.heap.size≤k_) (.slice (some ⟨g,0,none⟩) T1.length cg) ((T1.set pl.toNat (⟨(rd_T67 T1 pl).f0,X⟩ : S67)).set pl.toNat (⟨(rd_T67 T1 pl).f0,X1⟩ : S67))∧wb.grownBy (wb.setCell ⟨g,pl.toNat*2+1,none⟩ (.slice Am X1.length cm)) (some g) :=
     Kd.N_seg (Kd.N_below HN9.out hbb) pl hK0 HT1.out (c:=[.int .i64 (rd_T67 (T1.set pl.toNat (⟨(rd_T67 T1 pl).f0,X⟩ : S67)) pl).f0,.slice A9 (rd_T67 (T1.set pl.toNat (⟨(rd_T67 T1 pl).f0,X⟩ : S67)) pl).f1.length c9]) (seg:=[.slice Am X1.length cm]) (j:=1) rfl hcc_ (show 1+1≤2 from by decide) (x':=(⟨(rd_T67 T1 pl).f0,X1⟩ : S67)) (okp:=fun k_=>w9.heap.size≤k_) (by rw [erd];exact k67_mkF wb _ (⟨(rd_T67 T1 pl).f0,X1⟩ : S67) hXc hFe) (fun k_ hk=>⟨Nat.le_trans L37.out (Nat.le_trans L79.out hk),fun e9=>by rw [e9] at hk;exact Nat.lt_irrefl _ (Nat.lt_of_lt_of_le GL7.out (Nat.le_trans L79.out hk))⟩)
    have HN10:=zh hN8;have HFX10 : Aside0 (Kd.F k51 (wb.setCell ⟨g,pl.toNat*2+1,none⟩ (.slice Am X1.length cm)) (fun k_=>w7.heap.size≤k_) Ac X.length X):=⟨Kd.F_far (p:=⟨g,_,none⟩) (Kd.F_below HFX9.out hbb) (fun k_ hk e9=>by rw [e9] at hk;exact Nat.lt_irrefl _ (Nat.lt_of_lt_of_le GL7.out hk)) _⟩;have HB10 : Aside0 (Below w.heap.size w (wb.setCell ⟨g,pl.toNat*2+1,none⟩ (.slice Am X1.length cm))):=⟨zd (zC HB9.out hbb) HGW.out⟩;have H0_10 : Aside0 ((wb.setCell ⟨g,pl.toNat*2+1,none⟩ (.slice Am X1.length cm)).heap[g0]? = some (.cells #[.slice (some ⟨g,0,none⟩) T1.length cg,.int .i64 n1] 35 (0,0))):=⟨(Below.heap_setCell _ ⟨g,_,none⟩ _ g0 G0G.out).trans (zD H0_9.out hbb)⟩;have H2_10 : Aside0 ((wb.setCell ⟨g,pl.toNat*2+1,none⟩ (.slice Am X1.length cm)).heap[g2]? = some (.cells #[.slice none 0 0,.int .i64 0] 35 (0,0))):=⟨(Below.heap_setCell _ ⟨g,_,none⟩ _ g2 G2G.out).trans (zD H2_9.out hbb)⟩;have L710 : Aside0 (w7.heap.size≤(wb.setCell ⟨g,pl.toNat*2+1,none⟩ (.slice Am X1.length cm)).heap.size):=⟨by simp;exact Nat.le_trans L79.out hbb.size⟩;clear hN8 hG8 hFe hXc erd hRa hRb hba hbb hcl_ hFK_ hcc_ hfr_ q9 f9 HB9 H0_9 H2_9 HN9 HC1 HFX9 L79 hcut1;generalize (wb.setCell ⟨g,pl.toNat*2+1,none⟩ (.slice Am X1.length cm))=w10 at *
    go_wp2_with fail
    have hC2:=Kd.F_imp HFX10.out (fun _ hC=>Kd.C_drop (c:=cc) (m:=hf) hC HFL.out HXC.out);rw [zw] at hC2;replace hC2 : Kd.F k51 w10 (fun k_=>w7.heap.size≤k_) A2 (X.length - hf) (X.drop hf):=by rw [HA2.out];exact hC2
    have HC2:=zh (Kd.F_drew hC2);have HB11:=zh (zc HB10.out);have H0_11:=zh (zf H0_10.out);have H2_11:=zh (zf H2_10.out);have HN11:=zh (Kd.N_drew HN10.out);have L711 : Aside0 (w7.heap.size≤w10.drew.heap.size):=L710;obtain ⟨X2,hX2⟩ : ∃ X2 : List (S51),X2=[]++X.drop hf:=⟨_,rfl⟩;have HX2:=zh hX2;clear hC2 hX2;refine start_ (n:=10) (S:=fun w' => w'.cell? ⟨g0,1,none⟩=some (.int .i64 n1)) (ds:=[9]) (bm_ 0 10) jA rfl rfl ((zz H0_11.out 1).trans rfl) (fun hHeld=>?_);generalize w10.drew=w11 at HB11 H0_11 H2_11 HN11 HC2 L711 hHeld ⊢;clear HB10 H0_10 H2_10 HN10 HFX10 L710;refine pure_ (i:=0) (N:=some 100) (v:=?_) (a':=?_) (bm_ 1 10) rfl rfl jA (fun _ _ _ h=>h) (Or.inl ⟨by rfl,?_⟩) ?_ ?_;rotate_left;exact jb;rotate_left;exact jc
    refine pure_ (i:=3) (N:=some 103) (v:=?_) (a':=?_) #[true,false,false,true,false,false,false,false,false,false] rfl rfl jA (fun _ _ _ h=>h) (Or.inl ⟨by rfl,?_⟩) ?_ ?_;rotate_left;exact jb;rotate_left;exact jc
    refine pure_ (i:=4) (N:=some 104) (v:=?_) (a':=?_) #[true,false,false,true,true,false,false,false,false,false] rfl rfl jA (fun _ _ _ h=>h) (Or.inl ⟨by rfl,?_⟩) ?_ ?_;rotate_left;exact jb;rotate_left;exact jc
    refine pure_ (i:=5) (N:=some 105) (v:=?_) (a':=?_) #[true,false,false,true,true,true,false,false,false,false] rfl rfl jA (fun _ _ _ h=>h) (Or.inl ⟨by rfl,?_⟩) ?_ ?_;rotate_left;exact jb;rotate_left;exact jc
    refine take_ (i:=1) (N:=some 101) (v:=?_) (a':=?_) #[true,true,false,true,true,true,false,false,false,false] rfl rfl jA (fun _ _ _ h=>h) (Or.inl ⟨by rfl,?_⟩) hHeld ?_ ?_;rotate_left
    ·
     intro w' s0
     go_simp
     with_reducible rfl
    rotate_left
    exact jc
    refine join_ (σ:=Value×(Option Addr×Nat)×Nat) 1 (bm_ 9 10) (fun s => [(102,s.1),(106,.slice s.2.1.1 X2.length s.2.1.2),(107,.agg #[.int .i64 n1,.slice s.2.1.1 X2.length s.2.1.2]),(11,.pointer (some ⟨s.2.2,0,none⟩))]) (fun s w' => w'.heap[s.2.2]? = some (.cells #[.int .i64 0,.slice none 0 0] 67 (0,0))∧w11.heap.size≤s.2.2∧Kd.R k51 51 w' w11.heap.size (fun _=>True) (.slice s.2.1.1 X2.length s.2.1.2) X2∧Below w11.heap.size w11 w') ?_ ?_;rotate_left
    ·
     intro hCont
     refine two_ (i:=2) (j:=8) (Ni:=some 102) (Nj:=some 11) (bm_ 6 10) #[true,true,false,true,true,true,false,false,true,false] rfl rfl rfl rfl jA jB jB (fun K hK=>?_) (fun K hK=>?_)
     ·
      skip
      refine Kd.R_lit_step k51 _ 51 ?hg (N:=102) ?hd (xs:=([] : List (S51))) (inner:=[]) (ok:=fun _=>True) (okp:=fun _=>True) ?hr ?hp (fun _ hk=>hk) trivial (Below.refl _ _) (ye _) (by simp) ?_;(case hd=>rfl);(case hg=>rfl);(case hr=>go_simp <;> rfl);(case hp=>exact (Reps.none _ _));intro va wa hRa hba_ hga_ hna_;clear hga_ hna_;have hb2:=zC (Below.refl w11.heap.size w11) hba_;refine hK.out _ _ ((zz (zD H0_11.out hb2) 1).trans rfl) (fun hHeld=>?_);clear hK K;refine norm_ (a':=?_) ?_ ?_;rotate_left
      ·
       show Act.put _ (some 102) _=_
       simp only [Act.put,zi,zj,zk,zG,zH]
       rfl
      refine two_ (i:=6) (j:=8) (Ni:=some 106) (Nj:=some 11) (bm_ 7 10) #[true,true,true,true,true,true,false,false,true,false] rfl rfl rfl rfl jA jB jB (fun K hK=>?_) (fun K hK=>?_)
      ·
       skip
       refine Kd.R_append_rows_step k51 (w0:=w11) w11.heap.size (by rfl) (.tmp 102) (.tmp 105) 29 51 (.agg #[(.string ⟨#[]⟩),(.int .i64 0)]) 24 rfl Try.underlying29 info51 rfl jB jB va ([] : List (S51)) (X.drop hf) A2 (X.length - hf) (cc - hf) (fun _=>True) (fun _=>False) (by rfl) (by rfl) hRa (Kd.F_now (Kd.F_below HC2.out hb2)) (fun x cs h9=>F2.K_M x cs h9) (fun _ h9=>h9.elim) (fun _ _=>trivial) hb2 hb2.size jAd ?_;intro vb wb hRb hb6 hg6 hat6;rw [← HX2.out] at hRb;obtain ⟨Aq,cq,rfl⟩:=yk hRb;refine hK.out _ _ ((zz (zD H0_11.out hb6) 1).trans rfl) (fun hHeld=>?_);clear hK K;refine norm_ (a':=?_) ?_ ?_;rotate_left
       ·
        show Act.put _ (some 106) _=_
        simp only [Act.put,zi,zj,zk,zG,zH]
        rfl
       refine pure_ (i:=7) (N:=some 107) (v:=?_) (a':=?_) (bm_ 8 10) rfl rfl jA (fun _ _ _ h=>h) (Or.inl ⟨by rfl,?_⟩) ?_ ?_;rotate_left;exact jb;rotate_left;exact jc
       refine one_ (i:=8) (N:=some 11) (bm_ 9 10) rfl rfl jA jB (fun K hK=>?_);refine value_ (w1:=?_) (v:=?_) (by rfl) rfl ?_ ?_;rotate_left 2
       ·
        go_simp
        constructor
        ·
         rfl
        rfl
       refine hK.out _ _ ((zz (zD H0_11.out (za hb6 _)) 1).trans rfl) (fun hHeld=>?_);clear hK K;refine norm_ (a':=?_) ?_ ?_;rotate_left
       ·
        show Act.put _ (some 11) _=_
        simp only [Act.put,zi,zj,zk,zG,zH]
        rfl
       exact norm_ jM (hCont (va,(Aq,cq),wb.heap.size) _ ⟨(blk_new wb _),hb6.size,(zm hRb _),(za hb6 _)⟩)
      skip
      refine value_ (w1:=?_) (v:=?_) (by rfl) rfl ?_ ?_;rotate_left 2
      ·
       go_simp
       constructor
       ·
        rfl
       rfl
      refine hK.out _ _ ((zz (zD H0_11.out (za hb2 _)) 1).trans rfl) (fun hHeld=>?_);clear hK K;refine norm_ (a':=?_) ?_ ?_;rotate_left
      ·
       show Act.put _ (some 11) _=_
       simp only [Act.put,zi,zj,zk,zG,zH]
       rfl
      refine one_ (i:=6) (N:=some 106) #[true,true,true,true,true,true,true,false,true,false] rfl rfl jA jB (fun K hK=>?_);refine Kd.R_append_rows_step k51 (w0:=w11) w11.heap.size (by rfl) (.tmp 102) (.tmp 105) 29 51 (.agg #[(.string ⟨#[]⟩),(.int .i64 0)]) 24 rfl Try.underlying29 info51 rfl jB jB va ([] : List (S51)) (X.drop hf) A2 (X.length - hf) (cc - hf) (fun _=>True) (fun _=>False) (by rfl) (by rfl) (zm hRa _) (Kd.F_now (Kd.F_below HC2.out (za hb2 _))) (fun x cs h9=>F2.K_M x cs h9) (fun _ h9=>h9.elim) (fun _ _=>trivial) (za hb2 _) (za hb2 _).size jAd ?_;intro vb wb hRb hb6 hg6 hat6;rw [← HX2.out] at hRb;obtain ⟨Aq,cq,rfl⟩:=yk hRb;refine hK.out _ _ ((zz (zD H0_11.out hb6) 1).trans rfl) (fun hHeld=>?_);clear hK K;refine norm_ (a':=?_) ?_ ?_;rotate_left
      ·
       show Act.put _ (some 106) _=_
       simp only [Act.put,zi,zj,zk,zG,zH]
       rfl
      refine pure_ (i:=7) (N:=some 107) (v:=?_) (a':=?_) (bm_ 9 10) rfl rfl jA (fun _ _ _ h=>h) (Or.inl ⟨by rfl,?_⟩) ?_ ?_;rotate_left;exact jb;rotate_left;exact jc
      exact norm_ jM (hCont (va,(Aq,cq),wa.heap.size) _ ⟨((hg6.block _ (yi (blk_new wa _)) (fun he=>Nat.lt_irrefl _ (Kd.R_lt hRa _ he.symm))).trans (blk_new wa _)),hb2.size,hRb,hb6⟩)
     skip
     refine value_ (w1:=?_) (v:=?_) (by rfl) rfl ?_ ?_;rotate_left 2
     ·
      go_simp
      constructor
      ·
       rfl
      rfl
     refine hK.out _ _ ((zz (zD H0_11.out (za (Below.refl w11.heap.size w11) _)) 1).trans rfl) (fun hHeld=>?_);clear hK K;refine norm_ (a':=?_) ?_ ?_;rotate_left
     ·
      show Act.put _ (some 11) _=_
      simp only [Act.put,zi,zj,zk,zG,zH]
      rfl
     refine one_ (i:=2) (N:=some 102) #[true,true,true,true,true,true,false,false,true,false] rfl rfl jA jB (fun K hK=>?_);refine Kd.R_lit_step k51 _ 51 ?hg (N:=102) ?hd (xs:=([] : List (S51))) (inner:=[]) (ok:=fun _=>True) (okp:=fun _=>True) ?hr ?hp (fun _ hk=>hk) trivial (Below.refl _ _) (ye _) (by simp) ?_;(case hd=>rfl);(case hg=>rfl);(case hr=>go_simp <;> rfl);(case hp=>exact (Reps.none _ _));intro va wa hRa hba_ hga_ hna_;clear hga_ hna_;have hb2:=zC (za (Below.refl w11.heap.size w11) _) hba_;refine hK.out _ _ ((zz (zD H0_11.out hb2) 1).trans rfl) (fun hHeld=>?_);clear hK K;refine norm_ (a':=?_) ?_ ?_;rotate_left
     ·
      show Act.put _ (some 102) _=_
      simp only [Act.put,zi,zj,zk,zG,zH]
      rfl
     refine one_ (i:=6) (N:=some 106) #[true,true,true,true,true,true,true,false,true,false] rfl rfl jA jB (fun K hK=>?_);refine Kd.R_append_rows_step k51 (w0:=w11) w11.heap.size (by rfl) (.tmp 102) (.tmp 105) 29 51 (.agg #[(.string ⟨#[]⟩),(.int .i64 0)]) 24 rfl Try.underlying29 info51 rfl jB jB va ([] : List (S51)) (X.drop hf) A2 (X.length - hf) (cc - hf) (fun _=>True) (fun _=>False) (by rfl) (by rfl) (yx hRa (za (Below.refl w11.heap.size w11) _).size) (Kd.F_now (Kd.F_below HC2.out hb2)) (fun x cs h9=>F2.K_M x cs h9) (fun _ h9=>h9.elim) (fun _ _=>trivial) hb2 hb2.size jAd ?_;intro vb wb hRb hb6 hg6 hat6;rw [← HX2.out] at hRb;obtain ⟨Aq,cq,rfl⟩:=yk hRb;refine hK.out _ _ ((zz (zD H0_11.out hb6) 1).trans rfl) (fun hHeld=>?_);clear hK K;refine norm_ (a':=?_) ?_ ?_;rotate_left
     ·
      show Act.put _ (some 106) _=_
      simp only [Act.put,zi,zj,zk,zG,zH]
      rfl
     refine pure_ (i:=7) (N:=some 107) (v:=?_) (a':=?_) (bm_ 9 10) rfl rfl jA (fun _ _ _ h=>h) (Or.inl ⟨by rfl,?_⟩) ?_ ?_;rotate_left;exact jb;rotate_left;exact jc
     exact norm_ jM (hCont (va,(Aq,cq),w11.heap.size) _ ⟨((hg6.block _ (yi (zD (blk_new w11 _) hba_)) (fun he=>Nat.lt_irrefl _ (Nat.lt_of_lt_of_le (yi (blk_new w11 _)) (Kd.R_base hRa _ he.symm)))).trans (zD (blk_new w11 _) hba_)),(ye _),hRb,hb6⟩)
    rintro ⟨va,⟨Aq,cq⟩,bp⟩ wt ⟨hbox,hbp,hRb,hbt⟩;have q0:=zz hbox 0;have q1:=zz hbox 1;have f0:=zA hbox 0;have f1:=zA hbox 1;refine norm_ (a':=?_) ?_ ?_;rotate_left
    ·
     simp only [putAll,Act.put,zi,zj,zk]
     rfl
    refine last_ (i:=9) (N:=none) (bm_ 10 10) rfl rfl jA jB (fun K hK=>?_);refine skip_ (w1:=?_) (by rfl) rfl ?_ ?_;rotate_left
    ·
     go_simp
     rfl
    refine hK.out _ _ ?_;clear hK K;refine done_ jA ?_;have hne : ∀ q,q<w11.heap.size→q≠bp:=fun q hq e9=>Nat.lt_irrefl _ (Nat.lt_of_lt_of_le hq (e9 ▸ hbp));have l0_ : g0≠bp:=hne g0 (yi H0_11.out);have l2_ : g2≠bp:=hne g2 (yi H2_11.out);have HBP : Aside0 (((wt.setCell ⟨bp,0,none⟩ (.int .i64 n1)).setCell ⟨bp,1,none⟩ (.slice Aq X2.length cq)).heap[bp]? = some (.cells #[.int .i64 n1,.slice Aq X2.length cq] 67 (0,0))):=⟨blk_set (blk_set hbox 0 _) 1 _⟩;have hRt:=yf hRb hbox jB;have HF2 : Aside0 (Kd.F k51 ((wt.setCell ⟨bp,0,none⟩ (.int .i64 n1)).setCell ⟨bp,1,none⟩ (.slice Aq X2.length cq)) (fun k_=>w11.heap.size≤k_∧k_≠bp) Aq X2.length X2):=⟨Kd.F_far (p:=⟨bp,1,none⟩) (Kd.F_far (p:=⟨bp,0,none⟩) (Kd.F_mono (Kd.R_F (Kd.R_bound hRt)) (ok':=fun k_=>w11.heap.size≤k_∧k_≠bp) (fun _ hk=>⟨hk.2.1,hk.1.2⟩)) (fun _ hk=>hk.2) _) (fun _ hk=>hk.2) _⟩;have HXC2:=zh (yh hRb).2.1;have hwb : w.heap.size≤bp:=Nat.le_trans HB11.out.size hbp;have HB12 : Aside0 (Below w.heap.size w ((wt.setCell ⟨bp,0,none⟩ (.int .i64 n1)).setCell ⟨bp,1,none⟩ (.slice Aq X2.length cq))):=⟨zd (zd (zC HB11.out hbt) hwb) hwb⟩;have H0_12 : Aside0 (((wt.setCell ⟨bp,0,none⟩ (.int .i64 n1)).setCell ⟨bp,1,none⟩ (.slice Aq X2.length cq)).heap[g0]? = some (.cells #[.slice (some ⟨g,0,none⟩) T1.length cg,.int .i64 n1] 35 (0,0))):=⟨(Below.heap_setCell _ ⟨bp,_,none⟩ _ g0 l0_).trans ((Below.heap_setCell _ ⟨bp,_,none⟩ _ g0 l0_).trans (zD H0_11.out hbt))⟩;have H2_12 : Aside0 (((wt.setCell ⟨bp,0,none⟩ (.int .i64 n1)).setCell ⟨bp,1,none⟩ (.slice Aq X2.length cq)).heap[g2]? = some (.cells #[.slice none 0 0,.int .i64 0] 35 (0,0))):=⟨(Below.heap_setCell _ ⟨bp,_,none⟩ _ g2 l2_).trans ((Below.heap_setCell _ ⟨bp,_,none⟩ _ g2 l2_).trans (zD H2_11.out hbt))⟩;have HN12 : Aside0 (Kd.N k67 67 ((wt.setCell ⟨bp,0,none⟩ (.int .i64 n1)).setCell ⟨bp,1,none⟩ (.slice Aq X2.length cq)) w.heap.size (fun k_=>w3.heap.size≤k_) (.slice (some ⟨g,0,none⟩) T1.length cg) ((T1.set pl.toNat (⟨(rd_T67 T1 pl).f0,X⟩ : S67)).set pl.toNat (⟨(rd_T67 T1 pl).f0,X1⟩ : S67))):=⟨Kd.N_mono (Kd.N_far (p:=⟨bp,1,none⟩) (Kd.N_far (p:=⟨bp,0,none⟩) (Kd.N_below (Kd.N_bound HN11.out) hbt) (fun k_ hk=>hne k_ hk.2) _) (fun k_ hk=>hne k_ hk.2) _) (fun _ hk=>hk.1)⟩;have L712 : Aside0 (w7.heap.size≤((wt.setCell ⟨bp,0,none⟩ (.int .i64 n1)).setCell ⟨bp,1,none⟩ (.slice Aq X2.length cq)).heap.size):=⟨by simp;exact Nat.le_trans L711.out hbt.size⟩;have BP0:=zh (Ne.symm l0_);have BP2:=zh l2_;have BP3 : Aside0 (w3.heap.size≤bp):=⟨Nat.le_trans L37.out (Nat.le_trans L711.out hbp)⟩;have L311 : Aside0 (w3.heap.size≤w11.heap.size):=⟨Nat.le_trans L37.out L711.out⟩;clear hne l0_ l2_ hwb hRt hRb hbt hbox hbp q0 q1 f0 f1 hcut2 HB11 H0_11 H2_11 HN11 HC2 L711;generalize ((wt.setCell ⟨bp,0,none⟩ (.int .i64 n1)).setCell ⟨bp,1,none⟩ (.slice Aq X2.length cq))=w12 at *;have k0:=zz H0_12.out 0;have k1:=zz H0_12.out 1;have f1:=zA H0_12.out 1;have hw18:=HT3.out
    go_wp2_with fail
    clear k0 k1 f1 hw18;have HB13 : Aside0 (Below w.heap.size w (w12.setCell ⟨g0,1,none⟩ (.int .i64 (n1+1)))):=⟨zd HB12.out GB0.out⟩;have H0_13 : Aside0 ((w12.setCell ⟨g0,1,none⟩ (.int .i64 (n1+1))).heap[g0]? = some (.cells #[.slice (some ⟨g,0,none⟩) T1.length cg,.int .i64 (n1+1)] 35 (0,0))):=⟨blk_set H0_12.out 1 _⟩;have H2_13 : Aside0 ((w12.setCell ⟨g0,1,none⟩ (.int .i64 (n1+1))).heap[g2]? = some (.cells #[.slice none 0 0,.int .i64 0] 35 (0,0))):=⟨(Below.heap_setCell _ ⟨g0,_,none⟩ _ g2 (Ne.symm N02.out)).trans H2_12.out⟩;have HP_13 : Aside0 ((w12.setCell ⟨g0,1,none⟩ (.int .i64 (n1+1))).heap[bp]? = some (.cells #[.int .i64 n1,.slice Aq X2.length cq] 67 (0,0))):=⟨(Below.heap_setCell _ ⟨g0,_,none⟩ _ bp BP0.out).trans HBP.out⟩;have HN13 : Aside0 (Kd.N k67 67 (w12.setCell ⟨g0,1,none⟩ (.int .i64 (n1+1))) w.heap.size (fun k_=>w3.heap.size≤k_) (.slice (some ⟨g,0,none⟩) T1.length cg) ((T1.set pl.toNat (⟨(rd_T67 T1 pl).f0,X⟩ : S67)).set pl.toNat (⟨(rd_T67 T1 pl).f0,X1⟩ : S67))):=⟨Kd.N_far (p:=⟨g0,_,none⟩) HN12.out (fun _ hk e9=>by rw [e9] at hk;exact Nat.lt_irrefl _ (Nat.lt_of_lt_of_le L0.out hk)) _⟩;have HF13 : Aside0 (Kd.F k51 (w12.setCell ⟨g0,1,none⟩ (.int .i64 (n1+1))) (fun k_=>w11.heap.size≤k_∧k_≠bp) Aq X2.length X2):=⟨Kd.F_far (p:=⟨g0,_,none⟩) HF2.out (fun k_ hk e9=>by have h9:=hk.1;rw [e9] at h9;exact Nat.lt_irrefl _ (Nat.lt_of_lt_of_le L0.out (Nat.le_trans L311.out h9))) _⟩;have L313 : Aside0 (w3.heap.size≤(w12.setCell ⟨g0,1,none⟩ (.int .i64 (n1+1))).heap.size):=⟨by simp;exact Nat.le_trans L37.out L712.out⟩;clear HB12 H0_12 H2_12 HBP HN12 HF2 L712;generalize (w12.setCell ⟨g0,1,none⟩ (.int .i64 (n1+1)))=w13 at *;obtain ⟨Y,hY⟩ : ∃ Y,Y=(T1.set pl.toNat (⟨(rd_T67 T1 pl).f0,X⟩ : S67)).set pl.toNat (⟨(rd_T67 T1 pl).f0,X1⟩ : S67):=⟨_,rfl⟩;have hYl : Y.length=T1.length:=by rw [hY,List.length_set,List.length_set]
    have HN9:=zh (Kd.N_drew HN13.out);rw [← hY] at HN9;have HYL2:=zh hYl;have HF9:=zh (Kd.F_bound (Kd.F_drew HF13.out));have HB9:=zh (zc HB13.out);have H0_9:=zh (zf H0_13.out);have H2_9:=zh (zf H2_13.out);have HP_9:=zh (zf HP_13.out);have L39 : Aside0 (w3.heap.size≤w13.drew.heap.size):=L313;obtain ⟨Kn,rfl⟩ : ∃ Kn : Nat,pl=(Kn : Int):=⟨pl.toNat,(Int.toNat_of_nonneg hK0).symm⟩;have hKn : Kn<T1.length:=Int.ofNat_lt.1 HT1.out;have hKw:=F2.w_next Kn (Nat.le_trans (Nat.le_of_lt hKn) (Nat.le_trans HT2.out jB));have hKw2 : IntKind.i64.wrap ((Kn : Int)+1)=((Kn+1 : Nat) : Int):=(zG _).trans hKw;obtain ⟨j2,hj2⟩ : ∃ j : Nat,j=Kn+1:=⟨_,rfl⟩;have hjw2 : IntKind.i64.wrap ((Kn : Int)+1)=(j2 : Int):=by rw [hj2];exact hKw2
    have hjl2 : j2≤T1.length:=by rw [hj2];exact hKn
    have hi6 : (0 : Int)≤(j2 : Int):=Int.natCast_nonneg _;have hi7 : (j2 : Int)≤(T1.length : Int):=Int.ofNat_le.2 hjl2;obtain ⟨i0_,hi0_,_,hsz_,_⟩:=info_parts info67;have hcgl : T1.length≤cg:=(Kd.N_reads' HN9.out).2.1;have hcut1:=cut_to (P:=Try.prog) 33 67 .i64 Try.underlying33 hi0_ (some ⟨g,0,none⟩) T1.length cg (j2 : Int) hi6 hi7 hcgl;have hcut2:=cut_from (P:=Try.prog) 33 67 .i64 Try.underlying33 hi0_ 2 hsz_ (some ⟨g,0,none⟩) T1.length cg (j2 : Int) hi6 hi7;rw [Int.toNat_natCast] at hcut1 hcut2;have hFY:=Kd.F_bound (Kd.N_F HN9.out);rw [← hYl] at hFY;have hC1:=Kd.F_imp hFY (fun _ hC=>Kd.C_take (m:=j2) hC jAe);have hC2:=Kd.F_imp hFY (fun _ hC=>Kd.C_drop (c:=cg) (m:=j2) hC jAe (by rw [hYl];exact hcgl));rw [zx,Nat.min_eq_left jAe] at hC1;rw [zw,hYl] at hC2;obtain ⟨A2,hA2⟩ : ∃ A2,A2=(if cg=j2 then (some (⟨g,0,none⟩ : Addr)) else (some (⟨g,0,none⟩ : Addr)).map (·.add (j2*2))):=⟨_,rfl⟩;rw [← hA2] at hcut2;replace hC2 : Kd.F k67 w13.drew (fun k_=>w3.heap.size≤k_∧k_<w13.drew.heap.size) A2 (T1.length - j2) (Y.drop j2):=by rw [hA2];exact hC2
    have HJL2:=zh hjl2;have HC1:=zh hC1;have HC2:=zh hC2
    have HYR : Aside0 (Y.take (Kn+1) ++ [(⟨n1,X2⟩ : S67)]++Y.drop (Kn+1)=r1):=⟨by
     have e1 : X.take (X.length / 2)=X1:=by rw [HX1.out,List.nil_append,HHF.out]
     have e2 : X.drop (X.length / 2)=X2:=by rw [HX2.out,List.nil_append,HHF.out]
     have h9:=HR1.out;rw [e1,e2,← hY,Int.toNat_natCast] at h9
     exact h9⟩
    have HJ2:=zh hj2;clear hC1 hC2 hA2 hi0_ hsz_ hFY hcgl hY hYl hKw hKw2 hj2 hjl2 HN13 HR1 hKn;refine start_ (n:=18) (S:=fun w' => w'.cell? ⟨g0,0,none⟩=some (.slice (some ⟨g,0,none⟩) T1.length cg)∧w'.cell? ⟨bp,0,none⟩=some (.int .i64 n1)∧w'.cell? ⟨bp,1,none⟩=some (.slice Aq X2.length cq)) (ds:=[17]) (bm_ 0 18) jA rfl rfl ⟨(zz H0_9.out 0).trans rfl,(zz HP_9.out 0).trans rfl,(zz HP_9.out 1).trans rfl⟩ (fun hHeld=>?_);generalize w13.drew=w9 at HB9 H0_9 H2_9 HP_9 L39 HC1 HC2 HN9 HF9 hHeld ⊢;clear HB13 H0_13 H2_13 HP_13 HF13 L313;refine pure_ (i:=1) (N:=some 113) (v:=?_) (a':=?_) #[false,true,false,false,false,false,false,false,false,false,false,false,false,false,false,false,false,false] rfl rfl jA (fun _ _ _ h=>h) (Or.inl ⟨by rfl,?_⟩) ?_ ?_;rotate_left;exact jb;rotate_left;exact jc
    refine pure_ (i:=3) (N:=some 115) (v:=?_) (a':=?_) #[false,true,false,true,false,false,false,false,false,false,false,false,false,false,false,false,false,false] rfl rfl jA (fun _ _ _ h=>h) (Or.inl ⟨by rfl,?_⟩) ?_ ?_;rotate_left;exact jb;rotate_left;exact jc
    refine pure_ (i:=4) (N:=some 116) (v:=?_) (a':=?_) #[false,true,false,true,true,false,false,false,false,false,false,false,false,false,false,false,false,false] rfl rfl jA (fun _ _ _ h=>h) (Or.inl ⟨by rfl,?_⟩) ?_ ?_;rotate_left;exact jb;rotate_left;exact jc
    refine pure_ (i:=10) (N:=some 122) (v:=?_) (a':=?_) #[false,true,false,true,true,false,false,false,false,false,true,false,false,false,false,false,false,false] rfl rfl jA (fun _ _ _ h=>h) (Or.inl ⟨by rfl,?_⟩) ?_ ?_;rotate_left;exact jb;rotate_left;exact jc
    refine pure_ (i:=12) (N:=some 124) (v:=?_) (a':=?_) #[false,true,false,true,true,false,false,false,false,false,true,false,true,false,false,false,false,false] rfl rfl jA (fun _ _ _ h=>h) (Or.inl ⟨by rfl,?_⟩) ?_ ?_;rotate_left;exact jb;rotate_left;exact jc
    refine pure_ (i:=13) (N:=some 125) (v:=?_) (a':=?_) #[false,true,false,true,true,false,false,false,false,false,true,false,true,true,false,false,false,false] rfl rfl jA (fun _ _ _ h=>h) (Or.inl ⟨by rfl,?_⟩) ?_ ?_;rotate_left;exact jb;rotate_left;exact jc
    refine take_ (i:=2) (N:=some 114) (v:=?_) (a':=?_) #[false,true,true,true,true,false,false,false,false,false,true,false,true,true,false,false,false,false] rfl rfl jA (fun _ _ _ h=>h) (Or.inl ⟨by rfl,?_⟩) hHeld ?_ ?_;rotate_left
    ·
     rintro w' ⟨s0,s1,s2⟩
     go_simp
     with_reducible rfl
    rotate_left
    exact jc
    refine pure_ (i:=5) (N:=some 117) (v:=?_) (a':=?_) #[false,true,true,true,true,true,false,false,false,false,true,false,true,true,false,false,false,false] rfl rfl jA (fun _ _ _ h=>h) (Or.inl ⟨by rfl,?_⟩) ?_ ?_;rotate_left;exact jb;rotate_left;exact jc
    refine take_ (i:=7) (N:=some 119) (v:=?_) (a':=?_) #[false,true,true,true,true,true,false,true,false,false,true,false,true,true,false,false,false,false] rfl rfl jA (fun _ _ _ h=>h) (Or.inl ⟨by rfl,?_⟩) hHeld ?_ ?_;rotate_left
    ·
     rintro w' ⟨s0,s1,s2⟩
     go_simp
     with_reducible rfl
    rotate_left
    exact jc
    refine take_ (i:=11) (N:=some 123) (v:=?_) (a':=?_) #[false,true,true,true,true,true,false,true,false,false,true,true,true,true,false,false,false,false] rfl rfl jA (fun _ _ _ h=>h) (Or.inl ⟨by rfl,?_⟩) hHeld ?_ ?_;rotate_left
    ·
     rintro w' ⟨s0,s1,s2⟩
     go_simp
     with_reducible rfl
    rotate_left
    exact jc
    refine pure_ (i:=14) (N:=some 126) (v:=?_) (a':=?_) #[false,true,true,true,true,true,false,true,false,false,true,true,true,true,true,false,false,false] rfl rfl jA (fun _ _ _ h=>h) (Or.inl ⟨by rfl,?_⟩) ?_ ?_;rotate_left;exact jb;rotate_left;exact jc
    refine join_ (σ:=Value×Value×(Option Addr×Nat)) 4 #[true,true,true,true,true,true,true,true,true,false,true,true,true,true,true,false,false,false] (fun s => [(112,s.1),(118,s.2.1),(120,.slice s.2.2.1 1 s.2.2.2)]) (fun s w' => Kd.N k67 67 w' w9.heap.size (fun k_=>w3.heap.size≤k_) s.2.1 ([]++Y.take j2)∧Kd.F k67 w' (fun k_=>w3.heap.size≤k_∧some k_≠s.2.1.ownBlock) s.2.2.1 1 [(⟨n1,X2⟩ : S67)]∧Below w9.heap.size w9 w') ?_ ?_;rotate_left
    ·
     intro hCont
     refine two_ (i:=0) (j:=8) (Ni:=some 112) (Nj:=some 120) #[true,true,true,true,true,true,false,true,false,false,true,true,true,true,true,false,false,false] #[false,true,true,true,true,true,false,true,true,false,true,true,true,true,true,false,false,false] rfl rfl rfl rfl jA jB jB (fun K hK=>?_) (fun K hK=>?_)
     ·
      skip
      refine Kd.N_lit_step k67 _ 67 ?hg (N':=112) ?hd (xs:=([] : List (S67))) (inner:=[]) (ok:=(fun k_=>w3.heap.size≤k_)) (okp:=(fun k_=>w3.heap.size≤k_)) ?hr ?hp (fun _ hk=>hk) (Nat.le_trans L39.out (Below.refl w9.heap.size w9).size) (Below.refl _ _) (ye _) (by simp) ?_;(case hd=>rfl);(case hg=>rfl);(case hr=>go_simp <;> rfl);(case hp=>exact (Reps.none _ _));intro va wa hNa hba_ hga_ hna_;clear hga_ hna_;have hb0:=zC (Below.refl w9.heap.size w9) hba_;refine hK.out _ _ ⟨(zz (zD H0_9.out hb0) 0).trans rfl,(zz (zD HP_9.out hb0) 0).trans rfl,(zz (zD HP_9.out hb0) 1).trans rfl⟩ (fun hHeld=>?_);clear hK K;refine norm_ (a':=?_) ?_ ?_;rotate_left
      ·
       show Act.put _ (some 112) _=_
       simp only [Act.put,zi,zj,zk,zG,zH]
       rfl
      refine two_ (i:=6) (j:=8) (Ni:=some 118) (Nj:=some 120) #[true,true,true,true,true,true,true,true,false,false,true,true,true,true,true,false,false,false] #[true,true,true,true,true,true,false,true,true,false,true,true,true,true,true,false,false,false] rfl rfl rfl rfl jA jB jB (fun K hK=>?_) (fun K hK=>?_)
      ·
       skip
       refine Kd.N_append_rows_step k67 (w0:=w9) w9.heap.size (by rfl) (.tmp 112) (.tmp 117) 33 67 (.agg #[(.int .i64 0),(.slice none 0 0)]) 32 rfl Try.underlying33 info67 rfl jB jB va ([] : List (S67)) (Y.take j2) (some ⟨g,0,none⟩) j2 cg (fun k_=>w3.heap.size≤k_) (fun k_=>w3.heap.size≤k_∧k_<w9.heap.size) (by rfl) (by rfl) hNa (Kd.F_below HC1.out hb0) (fun k_ hk=>⟨hk.1,fun e9=>Nat.lt_irrefl _ (Nat.lt_of_lt_of_le hk.2 (Nat.le_trans (ye _) (Kd.N_base hNa k_ e9.symm)))⟩) (fun _ hk=>Nat.le_trans L39.out (Nat.le_trans hb0.size hk)) hb0 hb0.size jAK ?_;intro vb wb hNb hb6 hg6 hat6;refine hK.out _ _ ⟨(zz (zD H0_9.out hb6) 0).trans rfl,(zz (zD HP_9.out hb6) 0).trans rfl,(zz (zD HP_9.out hb6) 1).trans rfl⟩ (fun hHeld=>?_);clear hK K;refine norm_ (a':=?_) ?_ ?_;rotate_left
       ·
        show Act.put _ (some 118) _=_
        simp only [Act.put,zi,zj,zk,zG,zH]
        rfl
       refine one_ (i:=8) (N:=some 120) #[true,true,true,true,true,true,true,true,true,false,true,true,true,true,true,false,false,false] rfl rfl jA jB (fun K hK=>?_);refine Kd.N_lit_step k67 _ 67 ?hg (N':=120) ?hd (xs:=[(⟨n1,X2⟩ : S67)]) (inner:=[.int .i64 n1,.slice Aq X2.length cq]) (ok:=(fun k_=>w3.heap.size≤k_∧some k_≠vb.ownBlock)) (okp:=(fun k_=>w3.heap.size≤k_∧k_<w9.heap.size)) ?hr ?hp (fun k_ hk=>⟨hk.1,fun e9=>Nat.lt_irrefl _ (Nat.lt_of_lt_of_le hk.2 (Kd.N_base hNb k_ e9.symm))⟩) ⟨(Nat.le_trans L39.out hb6.size),fun e9=>Nat.lt_irrefl _ (Kd.N_lt hNb _ e9.symm)⟩ (Below.refl _ _) (ye _) (by simp) ?_;(case hd=>rfl);(case hg=>rfl);(case hr=>go_simp <;> rfl);(case hp=>exact (Go.Proofs.Ytamikhmpfmgofaa.Row.reps_one (k67_mkF _ _ (⟨n1,X2⟩ : S67) HXC2.out (Kd.F_mono (Kd.F_below HF9.out hb6) (fun _ hk=>⟨Nat.le_trans L311.out hk.1.1,hk.2⟩))) rfl));intro vl wl hNl hbl_ hga_ hna_;clear hga_ hna_;obtain ⟨Ax,cx,hvl⟩:=Kd.N_slice hNl;replace hvl : vl = .slice Ax 1 cx:=hvl;subst hvl;have hb8:=zC hb6 hbl_;refine hK.out _ _ ⟨(zz (zD H0_9.out hb8) 0).trans rfl,(zz (zD HP_9.out hb8) 0).trans rfl,(zz (zD HP_9.out hb8) 1).trans rfl⟩ (fun hHeld=>?_);clear hK K;refine norm_ (a':=?_) ?_ ?_;rotate_left
       ·
        show Act.put _ (some 120) _=_
        simp only [Act.put,zi,zj,zk,zG,zH]
        rfl
       exact norm_ jM (hCont (va,vb,(Ax,cx)) _ ⟨Kd.N_below hNb hbl_,Kd.N_F hNl,hb8⟩)
      skip
      refine Kd.N_lit_step k67 _ 67 ?hg (N':=120) ?hd (xs:=[(⟨n1,X2⟩ : S67)]) (inner:=[.int .i64 n1,.slice Aq X2.length cq]) (ok:=(fun k_=>w3.heap.size≤k_∧some k_≠va.ownBlock)) (okp:=(fun k_=>w3.heap.size≤k_∧k_<w9.heap.size)) ?hr ?hp (fun k_ hk=>⟨hk.1,fun e9=>Nat.lt_irrefl _ (Nat.lt_of_lt_of_le hk.2 (Kd.N_base hNa k_ e9.symm))⟩) ⟨(Nat.le_trans L39.out hb0.size),fun e9=>Nat.lt_irrefl _ (Kd.N_lt hNa _ e9.symm)⟩ (Below.refl _ _) (ye _) (by simp) ?_;(case hd=>rfl);(case hg=>rfl);(case hr=>go_simp <;> rfl);(case hp=>exact (Go.Proofs.Ytamikhmpfmgofaa.Row.reps_one (k67_mkF _ _ (⟨n1,X2⟩ : S67) HXC2.out (Kd.F_mono (Kd.F_below HF9.out hb0) (fun _ hk=>⟨Nat.le_trans L311.out hk.1.1,hk.2⟩))) rfl));intro vl wl hNl hbl_ hga_ hna_;clear hga_ hna_;obtain ⟨Ax,cx,hvl⟩:=Kd.N_slice hNl;replace hvl : vl = .slice Ax 1 cx:=hvl;subst hvl;have hb8:=zC hb0 hbl_;refine hK.out _ _ ⟨(zz (zD H0_9.out hb8) 0).trans rfl,(zz (zD HP_9.out hb8) 0).trans rfl,(zz (zD HP_9.out hb8) 1).trans rfl⟩ (fun hHeld=>?_);clear hK K;refine norm_ (a':=?_) ?_ ?_;rotate_left
      ·
       show Act.put _ (some 120) _=_
       simp only [Act.put,zi,zj,zk,zG,zH]
       rfl
      refine one_ (i:=6) (N:=some 118) #[true,true,true,true,true,true,true,true,true,false,true,true,true,true,true,false,false,false] rfl rfl jA jB (fun K hK=>?_);refine Kd.N_append_rows_step k67 (w0:=w9) w9.heap.size (by rfl) (.tmp 112) (.tmp 117) 33 67 (.agg #[(.int .i64 0),(.slice none 0 0)]) 32 rfl Try.underlying33 info67 rfl jB jB va ([] : List (S67)) (Y.take j2) (some ⟨g,0,none⟩) j2 cg (fun k_=>w3.heap.size≤k_) (fun k_=>w3.heap.size≤k_∧k_<w9.heap.size) (by rfl) (by rfl) (Kd.N_below hNa hbl_) (Kd.F_below HC1.out hb8) (fun k_ hk=>⟨hk.1,fun e9=>Nat.lt_irrefl _ (Nat.lt_of_lt_of_le hk.2 (Nat.le_trans (ye _) (Kd.N_base hNa k_ e9.symm)))⟩) (fun _ hk=>Nat.le_trans L39.out (Nat.le_trans hb8.size hk)) hb8 hb8.size jAK ?_;intro vb wb hNb hb6 hg6 hat6;refine hK.out _ _ ⟨(zz (zD H0_9.out hb6) 0).trans rfl,(zz (zD HP_9.out hb6) 0).trans rfl,(zz (zD HP_9.out hb6) 1).trans rfl⟩ (fun hHeld=>?_);clear hK K;refine norm_ (a':=?_) ?_ ?_;rotate_left
      ·
       show Act.put _ (some 118) _=_
       simp only [Act.put,zi,zj,zk,zG,zH]
       rfl
      exact norm_ jM (hCont (va,vb,(Ax,cx)) _ ⟨hNb,Kd.F_after (Kd.N_F hNl) hg6 hat6,hb6⟩)
     skip
     refine Kd.N_lit_step k67 _ 67 ?hg (N':=120) ?hd (xs:=[(⟨n1,X2⟩ : S67)]) (inner:=[.int .i64 n1,.slice Aq X2.length cq]) (ok:=(fun k_=>w3.heap.size≤k_)) (okp:=(fun k_=>w3.heap.size≤k_∧k_<w9.heap.size)) ?hr ?hp (fun _ hk=>hk.1) (Nat.le_trans L39.out (Below.refl w9.heap.size w9).size) (Below.refl _ _) (ye _) (by simp) ?_;(case hd=>rfl);(case hg=>rfl);(case hr=>go_simp <;> rfl);(case hp=>exact (Go.Proofs.Ytamikhmpfmgofaa.Row.reps_one (k67_mkF _ _ (⟨n1,X2⟩ : S67) HXC2.out (Kd.F_mono (Kd.F_below HF9.out (Below.refl w9.heap.size w9)) (fun _ hk=>⟨Nat.le_trans L311.out hk.1.1,hk.2⟩))) rfl));intro vl wl hNl hbl_ hga_ hna_;clear hga_ hna_;obtain ⟨Ax,cx,hvl⟩:=Kd.N_slice hNl;replace hvl : vl = .slice Ax 1 cx:=hvl;subst hvl;have hb8:=zC (Below.refl w9.heap.size w9) hbl_;refine hK.out _ _ ⟨(zz (zD H0_9.out hb8) 0).trans rfl,(zz (zD HP_9.out hb8) 0).trans rfl,(zz (zD HP_9.out hb8) 1).trans rfl⟩ (fun hHeld=>?_);clear hK K;refine norm_ (a':=?_) ?_ ?_;rotate_left
     ·
      show Act.put _ (some 120) _=_
      simp only [Act.put,zi,zj,zk,zG,zH]
      rfl
     refine one_ (i:=0) (N:=some 112) #[true,true,true,true,true,true,false,true,true,false,true,true,true,true,true,false,false,false] rfl rfl jA jB (fun K hK=>?_);refine Kd.N_lit_step k67 _ 67 ?hg (N':=112) ?hd (xs:=([] : List (S67))) (inner:=[]) (ok:=(fun k_=>w3.heap.size≤k_)) (okp:=(fun k_=>w3.heap.size≤k_)) ?hr ?hp (fun _ hk=>hk) (Nat.le_trans L39.out hb8.size) (Below.refl _ _) (ye _) (by simp) ?_;(case hd=>rfl);(case hg=>rfl);(case hr=>go_simp <;> rfl);(case hp=>exact (Reps.none _ _));intro va wa hNa hba_ hga_ hna_;clear hga_ hna_;have hb0:=zC hb8 hba_;refine hK.out _ _ ⟨(zz (zD H0_9.out hb0) 0).trans rfl,(zz (zD HP_9.out hb0) 0).trans rfl,(zz (zD HP_9.out hb0) 1).trans rfl⟩ (fun hHeld=>?_);clear hK K;refine norm_ (a':=?_) ?_ ?_;rotate_left
     ·
      show Act.put _ (some 112) _=_
      simp only [Act.put,zi,zj,zk,zG,zH]
      rfl
     refine one_ (i:=6) (N:=some 118) #[true,true,true,true,true,true,true,true,true,false,true,true,true,true,true,false,false,false] rfl rfl jA jB (fun K hK=>?_);refine Kd.N_append_rows_step k67 (w0:=w9) w9.heap.size (by rfl) (.tmp 112) (.tmp 117) 33 67 (.agg #[(.int .i64 0),(.slice none 0 0)]) 32 rfl Try.underlying33 info67 rfl jB jB va ([] : List (S67)) (Y.take j2) (some ⟨g,0,none⟩) j2 cg (fun k_=>w3.heap.size≤k_) (fun k_=>w3.heap.size≤k_∧k_<w9.heap.size) (by rfl) (by rfl) (Kd.N_lower hNa hb8.size) (Kd.F_below HC1.out hb0) (fun k_ hk=>⟨hk.1,fun e9=>Nat.lt_irrefl _ (Nat.lt_of_lt_of_le hk.2 (Nat.le_trans hb8.size (Kd.N_base hNa k_ e9.symm)))⟩) (fun _ hk=>Nat.le_trans L39.out (Nat.le_trans hb0.size hk)) hb0 hb0.size jAK ?_;intro vb wb hNb hb6 hg6 hat6;refine hK.out _ _ ⟨(zz (zD H0_9.out hb6) 0).trans rfl,(zz (zD HP_9.out hb6) 0).trans rfl,(zz (zD HP_9.out hb6) 1).trans rfl⟩ (fun hHeld=>?_);clear hK K;refine norm_ (a':=?_) ?_ ?_;rotate_left
     ·
      show Act.put _ (some 118) _=_
      simp only [Act.put,zi,zj,zk,zG,zH]
      rfl
     exact norm_ jM (hCont (va,vb,(Ax,cx)) _ ⟨hNb,Kd.F_after (Kd.F_elder' (Kd.N_F hNl) (Kd.N_base hNa) hba_) hg6 hat6,hb6⟩)
    rintro ⟨va,vb,Ax,cx⟩ wt ⟨hNb,hFl_,hbt⟩;have hHeld : wt.cell? ⟨g0,0,none⟩=some (.slice (some ⟨g,0,none⟩) T1.length cg)∧wt.cell? ⟨bp,0,none⟩=some (.int .i64 n1)∧wt.cell? ⟨bp,1,none⟩=some (.slice Aq X2.length cq):=⟨(zz (zD H0_9.out hbt) 0).trans rfl,(zz (zD HP_9.out hbt) 0).trans rfl,(zz (zD HP_9.out hbt) 1).trans rfl⟩;refine norm_ (a':=?_) ?_ ?_;rotate_left
    ·
     simp only [putAll,Act.put,zi,zj,zk]
     rfl
    refine one_ (i:=9) (N:=some 121) (bm_ 15 18) rfl rfl jA jB (fun K hK=>?_);refine Kd.N_append_rows_step k67 (w0:=w9) w9.heap.size (by rfl) (.tmp 118) (.tmp 120) 33 67 (.agg #[(.int .i64 0),(.slice none 0 0)]) 32 rfl Try.underlying33 info67 rfl jB jB vb ([]++Y.take j2) [(⟨n1,X2⟩ : S67)] Ax 1 cx (fun k_=>w3.heap.size≤k_) (fun k_=>w3.heap.size≤k_∧some k_≠vb.ownBlock) (by rfl) (by rfl) hNb hFl_ (fun _ hk=>hk) (fun _ hk=>Nat.le_trans L39.out (Nat.le_trans hbt.size hk)) hbt hbt.size jAK ?_;intro vd wd hNd hbd hg_ hat_;clear hg_ hat_;refine hK.out _ _ ⟨(zz (zD H0_9.out hbd) 0).trans rfl,(zz (zD HP_9.out hbd) 0).trans rfl,(zz (zD HP_9.out hbd) 1).trans rfl⟩ (fun hHeld=>?_);clear hK K;refine norm_ (a':=?_) ?_ ?_;rotate_left
    ·
     show Act.put _ (some 121) _=_
     simp only [Act.put,zi,zj,zk,zG,zH]
     rfl
    refine one_ (i:=15) (N:=some 127) (bm_ 16 18) rfl rfl jA jB (fun K hK=>?_);refine Kd.N_append_rows_step k67 (w0:=w9) w9.heap.size (by rfl) (.tmp 121) (.tmp 126) 33 67 (.agg #[(.int .i64 0),(.slice none 0 0)]) 32 rfl Try.underlying33 info67 rfl jB jB vd (([]++Y.take j2) ++ [(⟨n1,X2⟩ : S67)]) (Y.drop j2) A2 (T1.length - j2) (cg - j2) (fun k_=>w3.heap.size≤k_) (fun k_=>w3.heap.size≤k_∧k_<w9.heap.size) (by rfl) (by rfl) hNd (Kd.F_below HC2.out hbd) (fun k_ hk=>⟨hk.1,fun e9=>Nat.lt_irrefl _ (Nat.lt_of_lt_of_le hk.2 (Kd.N_base hNd k_ e9.symm))⟩) (fun _ hk=>Nat.le_trans L39.out (Nat.le_trans hbd.size hk)) hbd hbd.size jAK ?_;intro ve we hNe hbe hg_ hat_;clear hg_ hat_;obtain ⟨Z,hZ⟩ : ∃ Z : List (S67),Z=(([]++Y.take j2) ++ [(⟨n1,X2⟩ : S67)])++Y.drop j2:=⟨_,rfl⟩;rw [← hZ] at hNe;have HZ:=zh hZ;clear hZ;obtain ⟨Ac2,cc2,rfl⟩:=Kd.N_slice hNe;have hce:=(zz (zD H0_9.out hbe) 0).trans (show _=some (.slice (some ⟨g,0,none⟩) T1.length cg) from rfl);have f9:=zA (zD H0_9.out hbe) 0;refine hK.out _ _ ⟨(zz (zD H0_9.out hbe) 0).trans rfl,(zz (zD HP_9.out hbe) 0).trans rfl,(zz (zD HP_9.out hbe) 1).trans rfl⟩ (fun hHeld=>?_);clear hK K;refine norm_ (a':=?_) ?_ ?_;rotate_left
    ·
     show Act.put _ (some 127) _=_
     simp only [Act.put,zi,zj,zk,zG,zH]
     rfl
    refine pure_ (i:=16) (N:=some 128) (v:=?_) (a':=?_) (bm_ 17 18) rfl rfl jA (fun _ _ _ h=>h) (Or.inl ⟨by rfl,?_⟩) ?_ ?_;rotate_left;exact jb;rotate_left;exact jc
    refine last_ (i:=17) (N:=none) (bm_ 18 18) rfl rfl jA jB (fun K hK=>?_);refine skip_ (w1:=?_) (by rfl) rfl ?_ ?_;rotate_left
    ·
     go_simp
     rfl
    refine hK.out _ _ ?_;clear hK K;refine done_ jA ?_;have hZe : Y.take (Kn+1) ++ [(⟨n1,X2⟩ : S67)]++Y.drop (Kn+1)=Z:=by rw [HZ.out,List.nil_append,HJ2.out]
    obtain rfl : Z=r1:=hZe.symm.trans HYR.out;have HB14 : Aside0 (Below w.heap.size w (we.setCell ⟨g0,0,none⟩ (.slice Ac2 Z.length cc2))):=⟨zd (zC HB9.out hbe) GB0.out⟩;have H0_14 : Aside0 ((we.setCell ⟨g0,0,none⟩ (.slice Ac2 Z.length cc2)).heap[g0]? = some (.cells #[.slice Ac2 Z.length cc2,.int .i64 (n1+1)] 35 (0,0))):=⟨blk_set (zD H0_9.out hbe) 0 _⟩;have H2_14 : Aside0 ((we.setCell ⟨g0,0,none⟩ (.slice Ac2 Z.length cc2)).heap[g2]? = some (.cells #[.slice none 0 0,.int .i64 0] 35 (0,0))):=⟨(Below.heap_setCell _ ⟨g0,_,none⟩ _ g2 (Ne.symm N02.out)).trans (zD H2_9.out hbe)⟩;have HP_14 : Aside0 ((we.setCell ⟨g0,0,none⟩ (.slice Ac2 Z.length cc2)).heap[bp]? = some (.cells #[.int .i64 n1,.slice Aq X2.length cq] 67 (0,0))):=⟨(Below.heap_setCell _ ⟨g0,_,none⟩ _ bp BP0.out).trans (zD HP_9.out hbe)⟩;have HV14 : Aside0 (Kd.V k67 67 (we.setCell ⟨g0,0,none⟩ (.slice Ac2 Z.length cc2)) w.heap.size (fun k_=>w3.heap.size≤k_) (.slice Ac2 Z.length cc2) Z):=⟨Kd.V_far (p:=⟨g0,0,none⟩) (Kd.N_V hNe) (fun _ hk e9=>by rw [e9] at hk;exact Nat.lt_irrefl _ (Nat.lt_of_lt_of_le L0.out hk)) _⟩;clear hcut1 hcut2 hZe hNb hFl_ hbt hNd hbd hNe hbe hce f9 HB9 H0_9 H2_9 HP_9 HN9 HF9 HC1 HC2 hjw2;generalize (we.setCell ⟨g0,0,none⟩ (.slice Ac2 Z.length cc2))=w14 at *
    go_wp2_with fail
    have HB15:=zh (zc HB14.out);have H0_15:=zh (zf H0_14.out);have H2_15:=zh (zf H2_14.out);have HP_15:=zh (zf HP_14.out);have HV15:=zh (Kd.V_drew HV14.out);have q0:=zz H2_15.out 0;have q1:=zz H2_15.out 1;have f0:=zA H2_15.out 0;have f1:=zA H2_15.out 1;refine start_ (n:=6) (S:=fun w' => w'.cell? ⟨g0,0,none⟩=some (.slice Ac2 Z.length cc2)∧w'.cell? ⟨g0,1,none⟩=some (.int .i64 (n1+1))∧w'.cell? ⟨bp,0,none⟩=some (.int .i64 n1)) (ds:=[]) (bm_ 0 6) jA rfl rfl ⟨(zz H0_15.out 0).trans rfl,(zz H0_15.out 1).trans rfl,(zz HP_15.out 0).trans rfl⟩ (fun hHeld=>?_);generalize w14.drew=w15 at HB15 H0_15 H2_15 HP_15 HV15 q0 q1 f0 f1 hHeld ⊢;clear HB14 H0_14 H2_14 HP_14 HV14;refine pure_ (i:=1) (N:=some 130) (v:=?_) (a':=?_) #[false,true,false,false,false,false] rfl rfl jA (fun _ _ _ h=>h) (Or.inl ⟨by rfl,?_⟩) ?_ ?_;rotate_left;exact jb;rotate_left;exact jc
    refine take_ (i:=0) (N:=some 129) (v:=?_) (a':=?_) (bm_ 2 6) rfl rfl jA (fun _ _ _ h=>h) (Or.inl ⟨by rfl,?_⟩) hHeld ?_ ?_;rotate_left
    ·
     rintro w' ⟨s0,s1,s2⟩
     go_simp
     with_reducible rfl
    rotate_left
    exact jc
    refine take_ (i:=2) (N:=some 131) (v:=?_) (a':=?_) (bm_ 3 6) rfl rfl jA (fun _ _ _ h=>h) (Or.inl ⟨by rfl,?_⟩) hHeld ?_ ?_;rotate_left
    ·
     rintro w' ⟨s0,s1,s2⟩
     go_simp
     with_reducible rfl
    rotate_left
    exact jc
    refine one_ (i:=3) (N:=none) (bm_ 4 6) rfl rfl jA jB (fun K hK=>?_);refine skip_ (w1:=?_) (by rfl) rfl ?_ ?_;rotate_left
    ·
     go_simp
     rfl
    refine hK.out _ _ ⟨(zz ((Below.heap_setCell _ ⟨g2,_,none⟩ _ g0 N02.out).trans ((Below.heap_setCell _ ⟨g2,_,none⟩ _ g0 N02.out).trans H0_15.out)) 0).trans rfl,(zz ((Below.heap_setCell _ ⟨g2,_,none⟩ _ g0 N02.out).trans ((Below.heap_setCell _ ⟨g2,_,none⟩ _ g0 N02.out).trans H0_15.out)) 1).trans rfl,(zz ((Below.heap_setCell _ ⟨g2,_,none⟩ _ bp (Ne.symm BP2.out)).trans ((Below.heap_setCell _ ⟨g2,_,none⟩ _ bp (Ne.symm BP2.out)).trans HP_15.out)) 0).trans rfl⟩ (fun hHeld=>?_);clear hK K;refine pure_ (i:=4) (N:=some 5) (v:=?_) (a':=?_) (bm_ 5 6) rfl rfl jA (fun _ _ _ h=>h) (Or.inl ⟨by rfl,?_⟩) ?_ ?_;rotate_left;exact jb;rotate_left;exact jc
    refine pure_ (i:=5) (N:=some 6) (v:=?_) (a':=?_) (bm_ 6 6) rfl rfl jA (fun _ _ _ h=>h) (Or.inl ⟨by rfl,?_⟩) ?_ ?_;rotate_left;exact jb;rotate_left;exact jc
    refine done_ jA ?_
    go_wp2_with fail
    refine bodyPost_ret (results_ctt rfl _ _ g2 35 #[.slice Ac2 Z.length cc2,.int .i64 (n1+1)] (0,0) _ rfl (blk_set (blk_set H2_15.out 0 (.slice Ac2 Z.length cc2)) 1 (.int .i64 (n1+1))) hu35 rfl jA) rfl ?_;exact ⟨_,rfl,Kd.V_mono (Kd.V_far (p:=⟨g2,1,none⟩) (Kd.V_far (p:=⟨g2,0,none⟩) HV15.out (fun _ hk e9=>by rw [e9] at hk;exact Nat.lt_irrefl _ (Nat.lt_of_lt_of_le L2.out hk)) _) (fun _ hk e9=>by rw [e9] at hk;exact Nat.lt_irrefl _ (Nat.lt_of_lt_of_le L2.out hk)) _) (fun _ hk => .inr (Nat.le_trans GB0.out (Nat.le_trans (Nat.le_of_lt L0.out) hk))),zd (zd HB15.out GB2.out) GB2.out⟩

end Go.Proofs.Ytamikhmpfmgofaa.Q
end
section
namespace Go.Proofs.Ytamikhmpfmgofaa.Q
open Go.RowKit Go.Proofs.YtamikhmpfmgofaaW.PrintWords Go.Proofs.YtamikhmpfmgofaaW.PrintLast Go.Proofs.YtamikhmpfmgofaaW.PrintMore
attribute [local go_sem] max2_int min2_int max_two min_two max_three min_three max_four min_four max2_str min2_str str_geq str_gtr str_leq
set_option linter.unusedVariables false
set_option linter.unusedSimpArgs false
def F08.f (k : Nat) (l0_0 : List (S67)) (a0_1 : Int) (a1_0 : ByteArray) (a1_1 : Int) : Option ((List (S67))×Int×Int×Int):=(F0.f k l0_0 a0_1).bind fun t=>(if t=true then ((F0c.f a1_0 a1_1).bind fun u=>(if u=true then ((F2.f k l0_0 a0_1 a1_0 a1_1).bind fun d=>((F3.f k d.1 d.2.1).bind fun z=>some (z.1,z.2,d.2.2.1,d.2.2.2))) else (some (([] : List S67),0,0,1)))) else (some (([] : List S67),0,0,1)))
theorem F08.mono : ∀ a0 a1 a2 a3 k,LeO (F08.f k a0 a1 a2 a3) (F08.f (k+1) a0 a1 a2 a3):=by
 intro a0 a1 a2 a3 k;unfold F08.f;refine zO (F0.mono _ _ _) (fun _=>zP (zO (zQ _) (fun _=>zP (zO (F2.mono _ _ _ _ _) (fun _=>zO (F3.mono _ _ _) (fun _=>zQ _))) (zQ _))) (zQ _))
theorem F08.three (w : World) (o0 o1 o2 : Obj) : (((w.alloc o0).alloc o1).alloc o2).heap[w.heap.size]? = some o0∧(((w.alloc o0).alloc o1).alloc o2).heap[w.heap.size+1]? = some o1∧(((w.alloc o0).alloc o1).alloc o2).heap[w.heap.size+1+1]? = some o2∧Below w.heap.size w (((w.alloc o0).alloc o1).alloc o2):=by
 refine ⟨zg (zg (blk_new w _) _) _,zg ?_ _,?_,za (za (za (Below.refl _ _) _) _) _⟩
 ·
  have:=blk_new (w.alloc o0) o1
  simpa using this
 have:=blk_new ((w.alloc o0).alloc o1) o2
 simpa using this
set_option maxHeartbeats 8000000 in
set_option maxRecDepth 100000 in
theorem F08.calls (k : Nat) (A0_0 : Option Addr) (c0_0 : Nat) (l0_0 : List (S67)) (a0_1 : Int) (a1_0 : ByteArray) (a1_1 : Int) (r1 : List (S67)) (r2 : Int) (r3 : Int) (r4 : Int) (w : World) (hr0_0 : Kd.C k67 w A0_0 l0_0.length l0_0) (hc0_0 : l0_0.length≤c0_0) (h : F08.f k l0_0 a0_1 a1_0 a1_1=some (r1,r2,r3,r4)) :
  Calls Try.prog 25 #[.agg #[.slice A0_0 l0_0.length c0_0,.int .i64 a0_1],.agg #[.string a1_0,.int .i64 a1_1]] w fun e w' => ∃ v0_ : Value,e = .returned (.tuple #[.agg #[v0_,.int .i64 r2],.int .i64 r3,.int .i64 r4])∧Kd.S k67 67 w' w.heap.size (fun _=>True) v0_ r1∧Below w.heap.size w w':=by
 have hu35:=Try.underlying35;have hu51:=Try.underlying51;unfold F08.f at h;obtain ⟨t,hT,h⟩:=zT.mp h;obtain ⟨V,hV⟩ : ∃ V,V=((w.alloc (.cells #[.slice A0_0 l0_0.length c0_0,.int .i64 a0_1] 35)).alloc (.cells #[.string a1_0,.int .i64 a1_1] 51)).alloc (.cells #[.slice none 0 0,.int .i64 0] 35):=⟨_,rfl⟩;obtain ⟨h0,h1,h2,hBV⟩:=F08.three w (.cells #[.slice A0_0 l0_0.length c0_0,.int .i64 a0_1] 35) (.cells #[.string a1_0,.int .i64 a1_1] 51) (.cells #[.slice none 0 0,.int .i64 0] 35);rw [← hV] at h0 h1 h2 hBV;obtain ⟨g0,hg0⟩ : ∃ g,g=w.heap.size:=⟨_,rfl⟩;rw [← hg0] at h0 h1 h2;obtain ⟨g1,hg1⟩ : ∃ g,g=g0+1:=⟨_,rfl⟩;rw [← hg1] at h1 h2;obtain ⟨g2,hg2⟩ : ∃ g,g=g1+1:=⟨_,rfl⟩;rw [← hg2] at h2;have hbase : w.heap.size≤g2:=by rw [hg2,hg1,hg0,Nat.add_assoc];exact Nat.le_add_right _ _
 have H0 : Aside0 (V.heap[g0]? = some (.cells #[.slice A0_0 l0_0.length c0_0,.int .i64 a0_1] 35 (0,0))):=⟨h0⟩;have H1 : Aside0 (V.heap[g1]? = some (.cells #[.string a1_0,.int .i64 a1_1] 51 (0,0))):=⟨h1⟩;have H2 : Aside0 (V.heap[g2]? = some (.cells #[.slice none 0 0,.int .i64 0] 35 (0,0))):=⟨h2⟩;have HB:=zh hBV;have HC:=zh (Kd.C_below hr0_0 hBV);clear h0 h1 h2 hBV hr0_0
 have hcells : ∀ W1,Below V.heap.size V W1→(W1.cell? ⟨g0,0,none⟩=some (.slice A0_0 l0_0.length c0_0)∧W1.cell? ⟨g0,1,none⟩=some (.int .i64 a0_1)∧W1.cell? ⟨g1,0,none⟩=some (.string a1_0)∧W1.cell? ⟨g1,1,none⟩=some (.int .i64 a1_1)) :=
  fun W1 hb=>⟨(zz (zD H0.out hb) 0).trans rfl,(zz (zD H0.out hb) 1).trans rfl,(zz (zD H1.out hb) 0).trans rfl,(zz (zD H1.out hb) 1).trans rfl⟩
 obtain ⟨k0,k1,-,-⟩:=hcells V (Below.refl _ _);have HCE:=zh hcells;clear hcells
 -- an early answer
 have early : ∀ W1,Below V.heap.size V W1→W1.heap[g2]? = some (.cells #[.slice none 0 0,.int .i64 0] 35 (0,0))∧Below w.heap.size w W1:=fun W1 hb=>⟨zD H2.out hb,zC HB.out hb⟩;have HEA:=zh early;clear early
 go_enter Try.func25,Try.ntmps25
 go_wp2_with fail
 rw [← hV];simp only [← hg0];simp only [← hg1];simp only [← hg2];clear hV hg0 hg1 hg2
 go_at_call 28
 refine (F0.calls k A0_0 c0_0 l0_0 a0_1 t V HC.out hc0_0 hT).mono ?_;rintro e w1 ⟨rfl,hb1⟩;have HB1:=zh hb1;clear hb1 hT k0 k1
 cases t with
 | false =>
  rw [if_neg jB] at h;simp only [Option.some.injEq,Prod.mk.injEq] at h;obtain ⟨rfl,rfl,rfl,rfl⟩:=h;obtain ⟨hz,hbz⟩:=HEA.out w1 HB1.out;have q0:=zz hz 0;have q1:=zz hz 1;have f0:=zA hz 0;have f1:=zA hz 1
  go_wp2_with fail
  refine bodyPost_ret (results_ctt rfl _ _ g2 35 #[.slice none 0 0,.int .i64 0] (0,0) _ rfl (blk_set (blk_set hz 0 (.slice none 0 0)) 1 (.int .i64 0)) hu35 rfl jA) rfl ?_;exact ⟨_,rfl,Kd.S_nil _ _ _ _ _,zd (zd hbz hbase) hbase⟩
 | true =>
  rw [if_pos rfl] at h;obtain ⟨u,hU,h⟩:=zT.mp h;obtain ⟨-,-,k2,k3⟩:=HCE.out w1 HB1.out
  go_wp2_with fail
  go_at_call 41
  refine (F0c.calls a1_0 a1_1 u w1 hU).mono ?_;rintro e w2 ⟨rfl,hb2⟩;have HB2:=zh (zC HB1.out hb2);clear hb2 hU k2 k3 HB1
  cases u with
  | false =>
   rw [if_neg jB] at h;simp only [Option.some.injEq,Prod.mk.injEq] at h;obtain ⟨rfl,rfl,rfl,rfl⟩:=h;obtain ⟨hz,hbz⟩:=HEA.out w2 HB2.out;have q0:=zz hz 0;have q1:=zz hz 1;have f0:=zA hz 0;have f1:=zA hz 1
   go_wp2_with fail
   refine bodyPost_ret (results_ctt rfl _ _ g2 35 #[.slice none 0 0,.int .i64 0] (0,0) _ rfl (blk_set (blk_set hz 0 (.slice none 0 0)) 1 (.int .i64 0)) hu35 rfl jA) rfl ?_;exact ⟨_,rfl,Kd.S_nil _ _ _ _ _,zd (zd hbz hbase) hbase⟩
  | true =>
   rw [if_pos rfl] at h;obtain ⟨⟨L2,n2,d1,d2⟩,hD,h⟩:=zT.mp h;obtain ⟨⟨L3,n3⟩,hK2,h⟩:=zT.mp h;simp only at hD hK2 h;simp only [Option.some.injEq,Prod.mk.injEq] at h;obtain ⟨rfl,rfl,rfl,rfl⟩:=h;obtain ⟨k0,k1,k2,k3⟩:=HCE.out w2 HB2.out
   go_wp2_with fail
   go_at_call 48
   refine (F2.calls k (fun k_=>k_<w2.heap.size) A0_0 c0_0 l0_0 a0_1 a1_0 a1_1 L2 n2 d1 d2 w2 (Kd.V_mk hc0_0 (Kd.C_F k67_heap (Kd.C_below HC.out HB2.out))) hD).mono ?_;rintro e w5 ⟨v5,rfl,hV5,hB5⟩;have hz : w5.heap[g2]? = some (.cells #[.slice none 0 0,.int .i64 0] 35 (0,0)):=zD (HEA.out w2 HB2.out).1 hB5;have hbz : Below w.heap.size w w5:=zC (HEA.out w2 HB2.out).2 hB5;obtain ⟨A5,c5,rfl⟩:=Kd.V_slice hV5;have HC5:=zh (Kd.V_reads' hV5);have HZ:=zh hz;have HBZ:=zh hbz;clear hV5 hB5 hD k0 k1 k2 k3 hz hbz
   go_wp2_with fail
   go_at_call 43
   refine (F3.calls k A5 c5 L2 n2 L3 n3 _ (by repeat (first|exact HC5.out.2.2|apply Kd.C_alloc|apply Kd.C_drew)) HC5.out.2.1 hK2).mono ?_;rintro e w6 ⟨v6,rfl,hS6,hb6⟩;replace HZ : Aside0 ((w5.alloc (.cells #[.slice A5 L2.length c5,.int .i64 n2] 35)).heap[g2]? = some (.cells #[.slice none 0 0,.int .i64 0] 35 (0,0))):=⟨zg HZ.out _⟩;replace HBZ : Aside0 (Below w.heap.size w (w5.alloc (.cells #[.slice A5 L2.length c5,.int .i64 n2] 35))):=⟨za HBZ.out _⟩;have HZ6:=zh (zD HZ.out hb6);have HB6:=zh (zC HBZ.out hb6);have HS6:=zh (Kd.S_lower hS6 HBZ.out.size);obtain ⟨A6,c6,rfl⟩:=Kd.S_slice hS6;clear hS6 hb6 hK2 HC5 HZ HBZ;have q0:=zz HZ6.out 0;have q1:=zz HZ6.out 1;have f0:=zA HZ6.out 0;have f1:=zA HZ6.out 1
   go_wp2_with fail
   refine bodyPost_ret (results_ctt rfl _ _ g2 35 #[.slice A6 L3.length c6,.int .i64 n3] (0,0) _ rfl (blk_set (blk_set HZ6.out 0 (.slice A6 L3.length c6)) 1 (.int .i64 n3)) hu35 rfl jA) rfl ?_;exact ⟨_,rfl,Kd.S_set (Kd.S_set HS6.out HZ6.out jB 0 _) (blk_set HZ6.out 0 _) jB 1 _,zd (zd HB6.out hbase) hbase⟩


def Fl.l0 : Nat→List (S51)→List (S67)→Int→Int→Option ((List (S51)))
 | 0,_,_,_,_=>none
 | k+1,x3,x8,x9,x10=>if x10<x9 then (if 0≤x10 then (if x10<(x8.length : Int) then (if x3.length+((rd_T67 x8 x10).f1).length<5864062014805 then (Fl.l0 k (x3++((rd_T67 x8 x10).f1)) x8 x9 (wrap64 (x10+1))) else (none)) else (none)) else (none)) else (some x3)
def Fl.f (k : Nat) (l0_0 : List (S67)) (a0_1 : Int) : Option ((List (S51))):=Fl.l0 k (([] : List (S51))) l0_0 (l0_0.length : Int) 0
theorem Fl.mono_l : ∀ k,(∀ y0 y1 y2 y3,LeO (Fl.l0 k y0 y1 y2 y3) (Fl.l0 (k+1) y0 y1 y2 y3))
 | 0=>fun _ _ _ _ r h=>by simp [Fl.l0] at h
 | k+1=>by
  have ih0:=Fl.mono_l k;intro y0 y1 y2 y3;unfold Fl.l0
  repeat' first|(with_reducible first|exact ih0 _ _ _ _|exact zQ _|exact zN _|refine zP ?_ ?_|refine zO ?_ (fun _=>?_))|refine zP ?_ ?_|refine zO ?_ (fun _=>?_)
theorem Fl.mono : ∀ a0 a1 k,LeO (Fl.f k a0 a1) (Fl.f (k+1) a0 a1):=by
 intro a0 a1 k;have ih0:=Fl.mono_l k;unfold Fl.f
 repeat' first|(with_reducible first|exact ih0 _ _ _ _|exact zQ _|exact zN _|refine zP ?_ ?_|refine zO ?_ (fun _=>?_))|refine zP ?_ ?_|refine zO ?_ (fun _=>?_)
set_option maxHeartbeats 8000000 in
set_option maxRecDepth 100000 in
theorem Fl.calls (k : Nat) (A0_0 : Option Addr) (c0_0 : Nat) (l0_0 : List (S67)) (a0_1 : Int) (r : List (S51)) (w : World) (hr0_0 : Kd.C k67 w A0_0 l0_0.length l0_0) (hc0_0 : l0_0.length≤c0_0) (h : Fl.f k l0_0 a0_1=some r) :
  Calls Try.prog 33 #[.agg #[.slice A0_0 l0_0.length c0_0,.int .i64 a0_1]] w fun e w' => ∃ v0_ : Value,e = .returned (v0_)∧Kd.R k51 51 w' w.heap.size (fun _=>True) v0_ r∧Below w.heap.size w w':=by
 have hu35:=Try.underlying35;have hu67:=Try.underlying67;have HR0_0:=zh hr0_0;have HC0_0:=zh hc0_0;clear hr0_0 hc0_0;have HB:=zh (Below.refl w.heap.size w);have H : (Fl.l0 k (([] : List (S51))) l0_0 (l0_0.length : Int) 0)=some r:=h;clear h;obtain ⟨y206,hy206⟩ : ∃ y_ : List (S51),y_=(([] : List (S51))):=⟨_,rfl⟩;replace H : (Fl.l0 k y206 l0_0 (l0_0.length : Int) 0)=some r:=by first|(rw [hy206];with_reducible exact H)|(have H2_:=(Option.bind_some _ _).symm.trans H;rw [hy206];with_reducible exact H2_)|(have H2_:=(Option.bind_some _ _).symm.trans H;with_reducible exact H2_)|with_reducible exact H|(rw [hy206];exact H)|exact H
 have Ny206:=zh hy206;clear hy206;have H':=zh H;clear H
 go_enter Try.func33,Try.ntmps33
 go_wp2_with (first|((with_reducible refine zK (N:=1) rfl ?_);refine zI ?hg (N:=1) ?hd (cs:=#[.slice A0_0 l0_0.length c0_0,.int .i64 a0_1]) (t:=35) ?hr ?_;(case hd=>rfl);(case hg=>rfl);(case hr=>go_simp <;> rfl);intro gb205 hg w2 hbox hb;have BK205:=zh (hbox);have hH_:=cH jF hb hg;have GW205:=zh hH_.1;have GE205:=GW205;replace HB:=zh hH_.2;clear hb hbox hg hH_)|((with_reducible refine zK (N:=6) rfl ?_);refine Kd.R_lit k51 _ 51 ?hg (N:=6) ?hd (xs:=([] : List (S51))) (inner:=[]) (ok:=fun _=>True) (okp:=fun _=>True) ?hr ?hp (fun _ hk=>hk) trivial (Below.refl _ _) (ye _) (by simp) ?_;(case hd=>rfl);(case hg=>rfl);(case hr=>go_simp <;> rfl);(case hp=>exact (Reps.none _ _));intro v207 w3 ho4 hb hg_ hnew_;clear hg_ hnew_;(first|rw [← Ny206.out] at ho4|(simp only [Int.reduceToNat] at ho4;rw [← Ny206.out] at ho4));have HO208:=zh (yx ho4 (zB jAL));replace BK205:=zh (cD BK205.out jAM hb);replace HB:=zh (zC jAL hb);clear hb ho4;obtain ⟨hcz5_0,hcz5_1,hfz5_0,hfz5_1⟩:=cB2 BK205.out))
 go_loopg [3,10] k (fun kq v3 v10 w' => ∃ (x3_1 : List (S51)) (x10_1 : Int),v10 = .int .i64 x10_1∧Aside0 (Fl.l0 kq x3_1 l0_0 (l0_0.length : Int) x10_1=some r)∧Aside0 (kq≤k)∧Aside0 (Kd.R k51 51 w' w.heap.size (fun _=>True) v3 x3_1)∧Aside0 (w'.heap[gb205]? = some (.cells #[(.slice A0_0 l0_0.length c0_0),.int .i64 a0_1] 35 (0,0)))∧Aside0 (Below w.heap.size w w'))
 case atStart=>exact ⟨(y206),(0),jE,H',⟨ye _⟩,⟨by (with_reducible repeat (first|apply zm|apply zn|apply zo));exact HO208.out⟩,⟨jAM⟩,⟨jAL⟩⟩
 case round =>
  clear H'
  try clear p2
  try clear c3
  try clear hcz5_0 hcz5_1 hfz5_0 hfz5_1
  obtain ⟨x3_1,x10_1,rfl,HA,HK1,HO_3,BK205,HB⟩:=hrel
  cases gk with
  | zero=>exact absurd HA.out (by simp [Fl.l0])
  | succ k1 =>
   have H:=HA.out;clear HA;simp only [Fl.l0] at H
   by_cases c6 : x10_1<(l0_0.length : Int)
   ·
    rw [if_pos c6] at H
    have c6b0 : decide (x10_1<(l0_0.length : Int))=true:=decide_eq_true c6;clear c6
    by_cases c7 : 0≤x10_1
    ·
     rw [if_pos c7] at H
     have c7b0 : decide (0≤x10_1)=true:=decide_eq_true c7;clear c7
     by_cases c8 : x10_1<(l0_0.length : Int)
     ·
      rw [if_pos c8] at H
      have c8b0 : decide (x10_1<(l0_0.length : Int))=true:=decide_eq_true c8;clear c8
      by_cases c9 : x3_1.length+((rd_T67 l0_0 x10_1).f1).length<5864062014805
      ·
       rw [if_pos c9] at H
       have LMc9:=zh c9;clear c9;obtain ⟨y211,hy211⟩ : ∃ y_ : List (S51),y_=(x3_1++((rd_T67 l0_0 x10_1).f1)):=⟨_,rfl⟩;replace H : (Fl.l0 k1 y211 l0_0 (l0_0.length : Int) (wrap64 (x10_1+1)))=some r:=by first|(rw [hy211];with_reducible exact H)|(have H2_:=(Option.bind_some _ _).symm.trans H;rw [hy211];with_reducible exact H2_)|(have H2_:=(Option.bind_some _ _).symm.trans H;with_reducible exact H2_)|with_reducible exact H|(rw [hy211];exact H)|exact H
       have Ny211:=zh hy211;clear hy211;have H':=zh H;clear H;have p209 : 0≤(x10_1 : Int):=zy jC;have q209 : x10_1<(l0_0.length : Int):=zy jC;obtain ⟨ad209,A209_1,c209_1,e209,hx209_0,hx209_1,hl209_1,hi209_1⟩:=at_T67 HR0_0.out x10_1 p209 q209
       cases e209
       replace hx209_0:=(HB.out.cell (zl w _ hx209_0)).trans hx209_0;replace hx209_1:=(HB.out.cell (zl w _ hx209_1)).trans hx209_1;have HR209_1:=zh hi209_1;have HC209_1:=zh hl209_1;clear hi209_1 hl209_1;replace p209:=eq_true p209;replace q209:=eq_true q209
       go_wp2_with (first|((with_reducible refine zK (N:=5) rfl ?_);refine zI ?hg (N:=5) ?hd (cs:=#[.int .i64 0,.slice none 0 0]) (t:=67) ?hr ?_;(case hd=>rfl);(case hg=>rfl);(case hr=>go_simp <;> rfl);intro gb210 hg w10 hbox hb;replace HO_3:=zh (yg jR hb);have BK210:=zh (hbox);have hH_:=cH jAL hb hg;have GW210:=zh hH_.1;have GE210:=GW210;replace HB:=zh hH_.2;have NB205_210:=zh ((by rw [hg];exact yc (yi (g:=gb205) (o:=.cells #[.slice (some ad209) l0_0.length c0_0,.int .i64 a0_1] 35 (0,0)) jAM) : gb205≠gb210));have NB210_205:=zh NB205_210.out.symm;replace BK205:=zh (cD BK205.out jAM hb);clear hb hbox hg hH_;have hnb11:=NB210_205.out;have hnc11:=NB205_210.out;obtain ⟨hcz12_0,hcz12_1,hfz12_0,hfz12_1⟩:=cB2 BK210.out)|((with_reducible refine yA (b:=.append) (xs:=#[.tmp 14,.tmp 16]) rfl ?_);at_builtin;refine Kd.R_append_rows k51 (w0:=w) w.heap.size rfl (.tmp 14) (.tmp 16) 29 51 (.agg #[(.string ⟨#[]⟩),(.int .i64 0)]) 24 rfl Try.underlying29 info51 rfl jB jD u3 x3_1 ((rd_T67 l0_0 x10_1).f1) _ _ _ (fun _=>True) (fun _=>False) rfl rfl ?aO ?aR (fun _ _ h=>h) (fun _ h=>h.elim) ?aF ?aB ?aS ?aL ?_;(case aR=>exact Kd.C_below HR209_1.out jAf);(case aB=>exact jAf);(case aF=>exact (fun _ _=>trivial));(case aO=>exact (by (with_reducible repeat (first|apply zm|apply zn|apply zo));exact zM (zE (p:=⟨gb210,1,none⟩) (zE (p:=⟨gb210,0,none⟩) (yf HO_3.out BK210.out jB) (fun _ hk=>hk.2) (.int .i64 ((rd_T67 l0_0 x10_1).f0))) (fun _ hk=>hk.2) (.slice A209_1 ((rd_T67 l0_0 x10_1).f1).length c209_1)) (fun _ hk=>trivial)));(case aS=>exact (zB jAf));(case aL=>have:=LMc9.out;omega);intro v212 w13 ho hb hg hat;rw [← Ny211.out] at ho;replace BK205:=zh (yv (g:=gb205) (o:=.cells #[.slice (some ad209) l0_0.length c0_0,.int .i64 a0_1] 35 (0,0)) (by (with_reducible repeat first|apply ze|apply zf|apply zg);refine cS2 ?_ NB205_210.out;(with_reducible repeat first|apply ze|apply zf|apply zg);exact BK205.out) hg (Kd.R_ne HO_3.out BK205.out jB));replace BK210:=zh (yv (g:=gb210) (o:=.cells #[.int .i64 ((rd_T67 l0_0 x10_1).f0),.slice A209_1 ((rd_T67 l0_0 x10_1).f1).length c209_1] 67 (0,0)) (by (with_reducible repeat first|apply ze|apply zf|apply zg);refine zL (cs:=#[.int .i64 ((rd_T67 l0_0 x10_1).f0),.slice none 0 0]) ?_ 1 _ rfl;(with_reducible repeat first|apply ze|apply zf|apply zg);refine zL (cs:=#[.int .i64 0,.slice none 0 0]) ?_ 0 _ rfl;(with_reducible repeat first|apply ze|apply zf|apply zg);exact BK210.out) hg (Kd.R_ne HO_3.out BK210.out jB));replace HB:=zh (hb);have HO213:=zh (ho);clear HO_3 ho hb hg hat))
       go_roundg k1
       case measure=>have:=HK1.out;omega
       case rel=>exact ⟨(y211),(wrap64 (x10_1+1)),jE,H',⟨jL⟩,⟨by (with_reducible repeat (first|apply zm|apply zn|apply zo));exact HO213.out⟩,⟨jAM⟩,⟨jAf⟩⟩
      rw [if_neg c9] at H;exact absurd H (by simp)
     rw [if_neg c8] at H;exact absurd H (by simp)
    rw [if_neg c7] at H;exact absurd H (by simp)
   rw [if_neg c6] at H;have c6b0 : decide (x10_1<(l0_0.length : Int))=false:=decide_eq_false c6;clear c6;obtain rfl:=zU H
   go_wp2
   go_ret
   exact ⟨_,jH,jR,jAL⟩


def F02.f (a0 : Int) (a1 : Int) (a2 : Int) : Option (Bool):=if a1≤a0 then (some (decide (a0≤a2))) else (some false)
set_option maxHeartbeats 8000000 in
set_option maxRecDepth 100000 in
theorem F02.calls (a0 : Int) (a1 : Int) (a2 : Int) (r : Bool) (w : World) (h : F02.f a0 a1 a2=some r) :
  Calls Try.prog 56 #[.int .i64 a0,.int .i64 a1,.int .i64 a2] w fun e w' => e = .returned (.bool r)∧Drawn0 w w':=by
 have H : (if a1≤a0 then (some (decide (a0≤a2))) else (some false))=some r:=h;clear h
 by_cases c4 : a1≤a0
 ·
  rw [if_pos c4] at H
  have c4b0 : decide (a1≤a0)=true:=decide_eq_true c4;clear c4;obtain rfl:=zU H
  go_enter Try.func56,Try.ntmps56
  go_wp2
  go_ret
  exact ⟨jE,jJ⟩
 rw [if_neg c4] at H;have c4b0 : decide (a1≤a0)=false:=decide_eq_false c4;clear c4;obtain rfl:=zU H
 go_enter Try.func56,Try.ntmps56
 go_wp2
 go_ret
 exact ⟨jE,jJ⟩


def F0f.f (a0_0 : ByteArray) (a0_1 : Int) : Option (Bool):=if (a0_0.size : Int)≤2000 then ((F02.f a0_1 0 9999).bind fun t215=>(some t215)) else (some false)
set_option maxHeartbeats 8000000 in
set_option maxRecDepth 100000 in
theorem F0f.calls (a0_0 : ByteArray) (a0_1 : Int) (r : Bool) (w : World) (h : F0f.f a0_0 a0_1=some r) :
  Calls Try.prog 44 #[.agg #[.string a0_0,.int .i64 a0_1]] w fun e w' => e = .returned (.bool r)∧Below w.heap.size w w':=by
 have hu51:=Try.underlying51;have HB:=zh (Below.refl w.heap.size w);have H : (if (a0_0.size : Int)≤2000 then ((F02.f a0_1 0 9999).bind fun t215=>(some t215)) else (some false))=some r:=h;clear h
 by_cases c2 : (a0_0.size : Int)≤2000
 ·
  rw [if_pos c2] at H
  have c2b0 : decide ((a0_0.size : Int)≤2000)=true:=decide_eq_true c2;have c2b1 : decide (a0_0.size≤2000)=true:=decide_eq_true jD;clear c2;replace H:=zT.mp H;obtain ⟨t215,A30,H⟩:=H;have A3:=zh A30;clear A30;obtain rfl:=zU H
  go_enter Try.func44,Try.ntmps44
  go_wp2_with (first|((with_reducible refine zK (N:=1) rfl ?_);refine zI ?hg (N:=1) ?hd (cs:=#[.string a0_0,.int .i64 a0_1]) (t:=51) ?hr ?_;(case hd=>rfl);(case hg=>rfl);(case hr=>go_simp <;> rfl);intro gb214 hg w4 hbox hb;have BK214:=zh (hbox);have hH_:=cH jF hb hg;have GW214:=zh hH_.1;have GE214:=GW214;replace HB:=zh hH_.2;clear hb hbox hg hH_;obtain ⟨hcz5_0,hcz5_1,hfz5_0,hfz5_1⟩:=cB2 BK214.out)|(go_at_call 56;(with_reducible refine (F02.calls  a0_1 0 9999 t215 _ A3.out).mono ?_);rintro e w' ⟨rfl,⟨nd,rfl⟩⟩))
  go_ret
  exact ⟨jH,jBd⟩
 rw [if_neg c2] at H;have c2b0 : decide ((a0_0.size : Int)≤2000)=false:=decide_eq_false c2;have c2b1 : decide (a0_0.size≤2000)=false:=decide_eq_false jD;clear c2;obtain rfl:=zU H
 go_enter Try.func44,Try.ntmps44
 go_wp2_with (first|((with_reducible refine zK (N:=1) rfl ?_);refine zI ?hg (N:=1) ?hd (cs:=#[.string a0_0,.int .i64 a0_1]) (t:=51) ?hr ?_;(case hd=>rfl);(case hg=>rfl);(case hr=>go_simp <;> rfl);intro gb214 hg w6 hbox hb;have BK214:=zh (hbox);have hH_:=cH jF hb hg;have GW214:=zh hH_.1;have GE214:=GW214;replace HB:=zh hH_.2;clear hb hbox hg hH_;obtain ⟨hcz7_0,hcz7_1,hfz7_0,hfz7_1⟩:=cB2 BK214.out))
 go_ret
 exact ⟨jH,jBd⟩


def Fv.l0 : Nat→List Int→Int→Int→Int→Option (Int)
 | 0,_,_,_,_=>none
 | k+1,x0,x1,x7,x8=>if x8<x7 then (if 0≤x8 then (if x8<(x0.length : Int) then (if x1=(rd x0 x8) then (some x8) else (Fv.l0 k x0 x1 x7 (wrap64 (x8+1)))) else (none)) else (none)) else (some (-1))
def Fv.f (k : Nat) (l0 : List Int) (a1 : Int) : Option (Int):=Fv.l0 k l0 a1 (l0.length : Int) 0
theorem Fv.mono_l : ∀ k,(∀ y0 y1 y2 y3,LeO (Fv.l0 k y0 y1 y2 y3) (Fv.l0 (k+1) y0 y1 y2 y3))
 | 0=>fun _ _ _ _ r h=>by simp [Fv.l0] at h
 | k+1=>by
  have ih0:=Fv.mono_l k;intro y0 y1 y2 y3;unfold Fv.l0
  repeat' first|(with_reducible first|exact ih0 _ _ _ _|exact zQ _|exact zN _|refine zP ?_ ?_|refine zO ?_ (fun _=>?_))|refine zP ?_ ?_|refine zO ?_ (fun _=>?_)
theorem Fv.mono : ∀ a0 a1 k,LeO (Fv.f k a0 a1) (Fv.f (k+1) a0 a1):=by
 intro a0 a1 k;have ih0:=Fv.mono_l k;unfold Fv.f
 repeat' first|(with_reducible first|exact ih0 _ _ _ _|exact zQ _|exact zN _|refine zP ?_ ?_|refine zO ?_ (fun _=>?_))|refine zP ?_ ?_|refine zO ?_ (fun _=>?_)
set_option maxHeartbeats 8000000 in
set_option maxRecDepth 100000 in
theorem Fv.calls (k : Nat) (A0 : Option Addr) (c0 : Nat) (l0 : List Int) (a1 : Int) (r : Int) (w : World) (hr0 : Kd.C (Kd.int .i64) w A0 l0.length l0) (hc0 : l0.length≤c0) (h : Fv.f k l0 a1=some r) :
  Calls Try.prog 69 #[.slice A0 l0.length c0,.int .i64 a1] w fun e w' => e = .returned (.int .i64 r)∧Drawn0 w w':=by
 have HR0:=zh hr0;have HC0:=zh hc0;clear hr0 hc0;have H : (Fv.l0 k l0 a1 (l0.length : Int) 0)=some r:=h;clear h;have H':=zh H;clear H
 go_enter Try.func69,Try.ntmps69
 go_wp2
 go_loopg [8] k (fun kq v8 w' => ∃ (x8_1 : Int),v8 = .int .i64 x8_1∧Aside0 (Fv.l0 kq l0 a1 (l0.length : Int) x8_1=some r)∧Aside0 (kq≤k)∧Drawn0 w w')
 case atStart=>exact ⟨(0),jE,H',⟨ye _⟩,jJ⟩
 case round =>
  clear H'
  try clear p2
  obtain ⟨x8_1,rfl,HA,HK1,⟨m1,rfl⟩⟩:=hrel
  cases gk with
  | zero=>exact absurd HA.out (by simp [Fv.l0])
  | succ k1 =>
   have H:=HA.out;clear HA;simp only [Fv.l0] at H
   by_cases c3 : x8_1<(l0.length : Int)
   ·
    rw [if_pos c3] at H
    have c3b0 : decide (x8_1<(l0.length : Int))=true:=decide_eq_true c3;clear c3
    by_cases c4 : 0≤x8_1
    ·
     rw [if_pos c4] at H
     have c4b0 : decide (0≤x8_1)=true:=decide_eq_true c4;clear c4
     by_cases c5 : x8_1<(l0.length : Int)
     ·
      rw [if_pos c5] at H
      have c5b0 : decide (x8_1<(l0.length : Int))=true:=decide_eq_true c5;clear c5
      by_cases c6 : a1=(rd l0 x8_1)
      ·
       rw [if_pos c6] at H
       have c6b0 : (a1 == (rd l0 x8_1))=true:=ya.mpr c6;have c6b1 : (a1 != (rd l0 x8_1))=false:=zX.mpr c6;clear c6;obtain rfl:=zU H;have p216 : 0≤(x8_1 : Int):=zy jC;have q216 : x8_1<(l0.length : Int):=zy jC;obtain ⟨ad216,e216,hx216_0⟩:=Kd.at_int HR0.out x8_1 p216 q216
       cases e216
       replace p216:=eq_true p216;replace q216:=eq_true q216
       go_wp2
       go_ret
       exact ⟨jE,jJ⟩
      rw [if_neg c6] at H;have c6b0 : (a1 == (rd l0 x8_1))=false:=zY.mpr c6;have c6b1 : (a1 != (rd l0 x8_1))=true:=zZ.mpr c6;have H':=zh H;clear H;have p216 : 0≤(x8_1 : Int):=zy jC;have q216 : x8_1<(l0.length : Int):=zy jC;obtain ⟨ad216,e216,hx216_0⟩:=Kd.at_int HR0.out x8_1 p216 q216
      cases e216
      replace p216:=eq_true p216;replace q216:=eq_true q216
      go_wp2
      go_roundg k1
      case measure=>have:=HK1.out;omega
      case rel=>exact ⟨(wrap64 (x8_1+1)),jE,H',⟨jL⟩,jJ⟩
     rw [if_neg c5] at H;exact absurd H (by simp)
    rw [if_neg c4] at H;exact absurd H (by simp)
   rw [if_neg c3] at H;have c3b0 : decide (x8_1<(l0.length : Int))=false:=decide_eq_false c3;clear c3;obtain rfl:=zU H
   go_wp2
   go_ret
   exact ⟨jE,jJ⟩


def F06.f (k : Nat) (l0 : List Int) (a1 : Int) : Option (Bool):=(Fv.f k l0 a1).bind fun t217=>(some (decide (t217 ≥ 0)))
theorem F06.mono : ∀ a0 a1 k,LeO (F06.f k a0 a1) (F06.f (k+1) a0 a1):=by
 intro a0 a1 k;unfold F06.f
 repeat' first|(with_reducible first|exact Fv.mono _ _ _|exact zQ _|exact zN _|refine zP ?_ ?_|refine zO ?_ (fun _=>?_))|refine zP ?_ ?_|refine zO ?_ (fun _=>?_)
set_option maxHeartbeats 8000000 in
set_option maxRecDepth 100000 in
theorem F06.calls (k : Nat) (A0 : Option Addr) (c0 : Nat) (l0 : List Int) (a1 : Int) (r : Bool) (w : World) (hr0 : Kd.C (Kd.int .i64) w A0 l0.length l0) (hc0 : l0.length≤c0) (h : F06.f k l0 a1=some r) :
  Calls Try.prog 57 #[.slice A0 l0.length c0,.int .i64 a1] w fun e w' => e = .returned (.bool r)∧Drawn0 w w':=by
 have HR0:=zh hr0;have HC0:=zh hc0;clear hr0 hc0;have H : ((Fv.f k l0 a1).bind fun t217=>(some (decide (t217 ≥ 0))))=some r:=h;clear h;replace H:=zT.mp H;obtain ⟨t217,A30,H⟩:=H;have A3:=zh A30;clear A30;obtain rfl:=zU H
 go_enter Try.func57,Try.ntmps57
 go_wp2_with (first|((with_reducible refine zJ (f:=69) rfl ?_);refine yj (some 7) rfl rfl Try.func69 jA rfl #[.slice A0 l0.length c0,.int .i64 a1] rfl jG ?_;(with_reducible refine (Fv.calls k  _ _ l0 a1 t217 _ ?side1 ?side2 A3.out).mono ?_);(case side1=>repeat (first|exact HR0.out|(with_reducible refine Kd.C_alloc ?_ _)|(with_reducible refine Kd.C_drewN ?_ _)|(with_reducible refine Kd.C_drew ?_)));(case side2=>exact HC0.out);rintro e w' ⟨rfl,⟨nd,rfl⟩⟩;refine ⟨_,rfl,?_⟩))
 go_ret
 exact ⟨jE,jJ⟩


def Fs.l0 : Nat→Int→List Int→Int→Int→Option (Int)
 | 0,_,_,_,_=>none
 | k+1,x3,x6,x7,x8=>if x8<x7 then (if 0≤x8 then (if x8<(x6.length : Int) then (if (rd x6 x8)=x3 then (Fs.l0 k x3 x6 x7 (wrap64 (x8+1))) else (some (rd x6 x8))) else (none)) else (none)) else (some x3)
def Fs.f (k : Nat) (l0 : List Int) : Option (Int):=Fs.l0 k 0 l0 (l0.length : Int) 0
theorem Fs.mono_l : ∀ k,(∀ y0 y1 y2 y3,LeO (Fs.l0 k y0 y1 y2 y3) (Fs.l0 (k+1) y0 y1 y2 y3))
 | 0=>fun _ _ _ _ r h=>by simp [Fs.l0] at h
 | k+1=>by
  have ih0:=Fs.mono_l k;intro y0 y1 y2 y3;unfold Fs.l0
  repeat' first|(with_reducible first|exact ih0 _ _ _ _|exact zQ _|exact zN _|refine zP ?_ ?_|refine zO ?_ (fun _=>?_))|refine zP ?_ ?_|refine zO ?_ (fun _=>?_)
theorem Fs.mono : ∀ a0 k,LeO (Fs.f k a0) (Fs.f (k+1) a0):=by
 intro a0 k;have ih0:=Fs.mono_l k;unfold Fs.f
 repeat' first|(with_reducible first|exact ih0 _ _ _ _|exact zQ _|exact zN _|refine zP ?_ ?_|refine zO ?_ (fun _=>?_))|refine zP ?_ ?_|refine zO ?_ (fun _=>?_)
set_option maxHeartbeats 8000000 in
set_option maxRecDepth 100000 in
theorem Fs.calls (k : Nat) (A0 : Option Addr) (c0 : Nat) (l0 : List Int) (r : Int) (w : World) (hr0 : Kd.C (Kd.int .i64) w A0 l0.length l0) (hc0 : l0.length≤c0) (h : Fs.f k l0=some r) :
  Calls Try.prog 70 #[.slice A0 l0.length c0] w fun e w' => e = .returned (.int .i64 r)∧Drawn0 w w':=by
 have HR0:=zh hr0;have HC0:=zh hc0;clear hr0 hc0;have H : (Fs.l0 k 0 l0 (l0.length : Int) 0)=some r:=h;clear h;have H':=zh H;clear H
 go_enter Try.func70,Try.ntmps70
 go_wp2
 go_loopg [8] k (fun kq v8 w' => ∃ (x8_1 : Int),v8 = .int .i64 x8_1∧Aside0 (Fs.l0 kq 0 l0 (l0.length : Int) x8_1=some r)∧Aside0 (kq≤k)∧Drawn0 w w')
 case atStart=>exact ⟨(0),jE,H',⟨ye _⟩,jJ⟩
 case round =>
  clear H';obtain ⟨x8_1,rfl,HA,HK1,⟨m1,rfl⟩⟩:=hrel
  cases gk with
  | zero=>exact absurd HA.out (by simp [Fs.l0])
  | succ k1 =>
   have H:=HA.out;clear HA;simp only [Fs.l0] at H
   by_cases c2 : x8_1<(l0.length : Int)
   ·
    rw [if_pos c2] at H
    have c2b0 : decide (x8_1<(l0.length : Int))=true:=decide_eq_true c2;clear c2
    by_cases c3 : 0≤x8_1
    ·
     rw [if_pos c3] at H
     have c3b0 : decide (0≤x8_1)=true:=decide_eq_true c3;clear c3
     by_cases c4 : x8_1<(l0.length : Int)
     ·
      rw [if_pos c4] at H
      have c4b0 : decide (x8_1<(l0.length : Int))=true:=decide_eq_true c4;clear c4
      by_cases c5 : (rd l0 x8_1)=0
      ·
       rw [if_pos c5] at H
       have c5b0 : ((rd l0 x8_1) == 0)=true:=ya.mpr c5;have c5b1 : ((rd l0 x8_1) != 0)=false:=zX.mpr c5;clear c5;have H':=zh H;clear H;have p218 : 0≤(x8_1 : Int):=zy jC;have q218 : x8_1<(l0.length : Int):=zy jC;obtain ⟨ad218,e218,hx218_0⟩:=Kd.at_int HR0.out x8_1 p218 q218
       cases e218
       replace p218:=eq_true p218;replace q218:=eq_true q218
       go_wp2
       go_roundg k1
       case measure=>have:=HK1.out;omega
       case rel=>exact ⟨(wrap64 (x8_1+1)),jE,H',⟨jL⟩,jJ⟩
      rw [if_neg c5] at H;have c5b0 : ((rd l0 x8_1) == 0)=false:=zY.mpr c5;have c5b1 : ((rd l0 x8_1) != 0)=true:=zZ.mpr c5;obtain rfl:=zU H;have p218 : 0≤(x8_1 : Int):=zy jC;have q218 : x8_1<(l0.length : Int):=zy jC;obtain ⟨ad218,e218,hx218_0⟩:=Kd.at_int HR0.out x8_1 p218 q218
      cases e218
      replace p218:=eq_true p218;replace q218:=eq_true q218
      go_wp2
      go_ret
      exact ⟨jE,jJ⟩
     rw [if_neg c4] at H;exact absurd H (by simp)
    rw [if_neg c3] at H;exact absurd H (by simp)
   rw [if_neg c2] at H;have c2b0 : decide (x8_1<(l0.length : Int))=false:=decide_eq_false c2;clear c2;obtain rfl:=zU H
   go_wp2
   go_ret
   exact ⟨jE,jJ⟩


def strings_Compare.f (a0 : ByteArray) (a1 : ByteArray) : Option (Int):=some (Lib.compareBytes a0.data.toList a1.data.toList)
set_option maxHeartbeats 1000000 in
set_option maxRecDepth 100000 in
theorem strings_Compare.inner (a b : ByteArray) (w : World) :
  Calls Try.prog 78 #[.string a,.string b] w fun e w' => e = .returned (.int .i64 (Lib.compareBytes a.data.toList b.data.toList))∧w' = w:=by
 go_enter Try.func78,Try.ntmps78
 go_wp2
 rw [run_callFunc_extern Try.func82 jA jA jA (e:=Extern.BytealgCompare.compare) jA,Lib.run_compareString];simp only [Result.andThen];rw [Oper.upon_value]
 go_wp2
 go_ret
 exact ⟨rfl,rfl⟩
set_option maxHeartbeats 1000000 in
theorem strings_Compare.calls (a0 : ByteArray) (a1 : ByteArray) (r : Int) (w : World) (h : strings_Compare.f a0 a1=some r) :
  Calls Try.prog 71 #[.string a0,.string a1] w fun e w' => e = .returned (.int .i64 r)∧Drawn0 w w':=by
 have h' : (some (Lib.compareBytes a0.data.toList a1.data.toList))=some r:=h;obtain rfl:=zU h';clear h h'
 go_enter Try.func71,Try.ntmps71
 go_wp2_with (go_at_call 78;refine (strings_Compare.inner _ _ _).mono ?_;rintro e w' ⟨rfl,rfl⟩)
 go_ret
 exact ⟨rfl,yp _⟩


def F05.f (a0 : Int) : Option (Bool):=some (a0 != a0)
set_option maxHeartbeats 8000000 in
set_option maxRecDepth 100000 in
theorem F05.calls (a0 : Int) (r : Bool) (w : World) (h : F05.f a0=some r) :
  Calls Try.prog 79 #[.int .i64 a0] w fun e w' => e = .returned (.bool r)∧Drawn0 w w':=by
 have H : (some (a0 != a0))=some r:=h;clear h;obtain rfl:=zU H
 go_enter Try.func79,Try.ntmps79
 go_wp2
 go_ret
 exact ⟨jE,jJ⟩


def F0k.f (a0 : Int) (a1 : Int) : Option (Int):=(F05.f a0).bind fun t219=>((F05.f a1).bind fun t220=>(if t219=true then (if t220=true then (some 0) else (some (-1))) else (if t220=true then (some 1) else (if a0<a1 then (some (-1)) else (if a0 > a1 then (some 1) else (some 0))))))
set_option maxHeartbeats 8000000 in
set_option maxRecDepth 100000 in
theorem F0k.calls (a0 : Int) (a1 : Int) (r : Int) (w : World) (h : F0k.f a0 a1=some r) :
  Calls Try.prog 72 #[.int .i64 a0,.int .i64 a1] w fun e w' => e = .returned (.int .i64 r)∧Drawn0 w w':=by
 have H : ((F05.f a0).bind fun t219=>((F05.f a1).bind fun t220=>(if t219=true then (if t220=true then (some 0) else (some (-1))) else (if t220=true then (some 1) else (if a0<a1 then (some (-1)) else (if a0 > a1 then (some 1) else (some 0)))))))=some r:=h;clear h;replace H:=zT.mp H;obtain ⟨t219,A30,H⟩:=H;have A3:=zh A30;clear A30;replace H:=zT.mp H;obtain ⟨t220,A40,H⟩:=H;have A4:=zh A40;clear A40
 by_cases c5 : t219=true
 ·
  subst c5
  rw [if_pos rfl] at H
  by_cases c6 : t220=true
  ·
   subst c6
   rw [if_pos rfl] at H;obtain rfl:=zU H
   go_enter Try.func72,Try.ntmps72
   go_wp2_with (first|((with_reducible refine zJ (f:=79) rfl ?_);refine yj (some 8) rfl rfl Try.func79 jA rfl #[.int .i64 a0] rfl jG ?_;(with_reducible refine (F05.calls  a0 true _ A3.out).mono ?_);rintro e w' ⟨rfl,⟨nd,rfl⟩⟩;refine ⟨_,rfl,?_⟩)|((with_reducible refine zJ (f:=79) rfl ?_);refine yj (some 10) rfl rfl Try.func79 jA rfl #[.int .i64 a1] rfl jG ?_;(with_reducible refine (F05.calls  a1 true _ A4.out).mono ?_);rintro e w' ⟨rfl,⟨nd,rfl⟩⟩;refine ⟨_,rfl,?_⟩))
   go_ret
   exact ⟨jE,jJ⟩
  replace c6:=yb.mpr c6;subst c6;rw [if_neg (show ¬ (false=true) by decide)] at H;obtain rfl:=zU H
  go_enter Try.func72,Try.ntmps72
  go_wp2_with (first|((with_reducible refine zJ (f:=79) rfl ?_);refine yj (some 8) rfl rfl Try.func79 jA rfl #[.int .i64 a0] rfl jG ?_;(with_reducible refine (F05.calls  a0 true _ A3.out).mono ?_);rintro e w' ⟨rfl,⟨nd,rfl⟩⟩;refine ⟨_,rfl,?_⟩)|((with_reducible refine zJ (f:=79) rfl ?_);refine yj (some 10) rfl rfl Try.func79 jA rfl #[.int .i64 a1] rfl jG ?_;(with_reducible refine (F05.calls  a1 false _ A4.out).mono ?_);rintro e w' ⟨rfl,⟨nd,rfl⟩⟩;refine ⟨_,rfl,?_⟩))
  go_ret
  exact ⟨jE,jJ⟩
 replace c5:=yb.mpr c5;subst c5;rw [if_neg (show ¬ (false=true) by decide)] at H
 by_cases c7 : t220=true
 ·
  subst c7
  rw [if_pos rfl] at H;obtain rfl:=zU H
  go_enter Try.func72,Try.ntmps72
  go_wp2_with (first|((with_reducible refine zJ (f:=79) rfl ?_);refine yj (some 8) rfl rfl Try.func79 jA rfl #[.int .i64 a0] rfl jG ?_;(with_reducible refine (F05.calls  a0 false _ A3.out).mono ?_);rintro e w' ⟨rfl,⟨nd,rfl⟩⟩;refine ⟨_,rfl,?_⟩)|((with_reducible refine zJ (f:=79) rfl ?_);refine yj (some 10) rfl rfl Try.func79 jA rfl #[.int .i64 a1] rfl jG ?_;(with_reducible refine (F05.calls  a1 true _ A4.out).mono ?_);rintro e w' ⟨rfl,⟨nd,rfl⟩⟩;refine ⟨_,rfl,?_⟩))
  go_ret
  exact ⟨jE,jJ⟩
 replace c7:=yb.mpr c7;subst c7;rw [if_neg (show ¬ (false=true) by decide)] at H
 by_cases c8 : a0<a1
 ·
  rw [if_pos c8] at H
  have c8b0 : decide (a0<a1)=true:=decide_eq_true c8;clear c8;obtain rfl:=zU H
  go_enter Try.func72,Try.ntmps72
  go_wp2_with (first|((with_reducible refine zJ (f:=79) rfl ?_);refine yj (some 8) rfl rfl Try.func79 jA rfl #[.int .i64 a0] rfl jG ?_;(with_reducible refine (F05.calls  a0 false _ A3.out).mono ?_);rintro e w' ⟨rfl,⟨nd,rfl⟩⟩;refine ⟨_,rfl,?_⟩)|((with_reducible refine zJ (f:=79) rfl ?_);refine yj (some 10) rfl rfl Try.func79 jA rfl #[.int .i64 a1] rfl jG ?_;(with_reducible refine (F05.calls  a1 false _ A4.out).mono ?_);rintro e w' ⟨rfl,⟨nd,rfl⟩⟩;refine ⟨_,rfl,?_⟩))
  go_ret
  exact ⟨jE,jJ⟩
 rw [if_neg c8] at H;have c8b0 : decide (a0<a1)=false:=decide_eq_false c8;clear c8
 by_cases c9 : a0 > a1
 ·
  rw [if_pos c9] at H
  have c9b0 : decide (a1<a0)=true:=decide_eq_true c9;clear c9;obtain rfl:=zU H
  go_enter Try.func72,Try.ntmps72
  go_wp2_with (first|((with_reducible refine zJ (f:=79) rfl ?_);refine yj (some 8) rfl rfl Try.func79 jA rfl #[.int .i64 a0] rfl jG ?_;(with_reducible refine (F05.calls  a0 false _ A3.out).mono ?_);rintro e w' ⟨rfl,⟨nd,rfl⟩⟩;refine ⟨_,rfl,?_⟩)|((with_reducible refine zJ (f:=79) rfl ?_);refine yj (some 10) rfl rfl Try.func79 jA rfl #[.int .i64 a1] rfl jG ?_;(with_reducible refine (F05.calls  a1 false _ A4.out).mono ?_);rintro e w' ⟨rfl,⟨nd,rfl⟩⟩;refine ⟨_,rfl,?_⟩))
  go_ret
  exact ⟨jE,jJ⟩
 rw [if_neg c9] at H;have c9b0 : decide (a1<a0)=false:=decide_eq_false c9;clear c9;obtain rfl:=zU H
 go_enter Try.func72,Try.ntmps72
 go_wp2_with (first|((with_reducible refine zJ (f:=79) rfl ?_);refine yj (some 8) rfl rfl Try.func79 jA rfl #[.int .i64 a0] rfl jG ?_;(with_reducible refine (F05.calls  a0 false _ A3.out).mono ?_);rintro e w' ⟨rfl,⟨nd,rfl⟩⟩;refine ⟨_,rfl,?_⟩)|((with_reducible refine zJ (f:=79) rfl ?_);refine yj (some 10) rfl rfl Try.func79 jA rfl #[.int .i64 a1] rfl jG ?_;(with_reducible refine (F05.calls  a1 false _ A4.out).mono ?_);rintro e w' ⟨rfl,⟨nd,rfl⟩⟩;refine ⟨_,rfl,?_⟩))
 go_ret
 exact ⟨jE,jJ⟩


def Fi.f (k : Nat) (a0_0 : ByteArray) (a0_1 : Int) (a1_0 : ByteArray) (a1_1 : Int) : Option (Int):=(strings_Compare.f a0_0 a1_0).bind fun t223=>((F0k.f a0_1 a1_1).bind fun t224=>((Fs.f k (([t223,t224] : List Int))).bind fun t228=>(some t228)))
theorem Fi.mono : ∀ a0 a1 a2 a3 k,LeO (Fi.f k a0 a1 a2 a3) (Fi.f (k+1) a0 a1 a2 a3):=by
 intro a0 a1 a2 a3 k;unfold Fi.f
 repeat' first|(with_reducible first|exact Fs.mono _ _|exact zQ _|exact zN _|refine zP ?_ ?_|refine zO ?_ (fun _=>?_))|refine zP ?_ ?_|refine zO ?_ (fun _=>?_)
def Fi.T1 : Bool×List (List Nat×List Nat):=(true,[([],[]),([0],[0]),([],[]),([2],[2]),([1,3],[1,3]),([],[]),([5],[5]),([],[]),([7],[7]),([6,8,4],[6,8]),([4,9],[4,9]),([10,9],[10]),([11,11,0,1,2,3,4,5,6,7,8,9,10,11],[11])])
def Fi.B1 : List Nat:=[0,1,0,4,15,0,32,0,128,511,1023,2047,4095]
theorem Fi.tab1 : rtab .any (opsOf Try.f58 1)=Fi.T1:=by kernel_rfl
theorem Fi.bits1 : waitsOk Fi.T1.2 Fi.B1=true:=by kernel_rfl
set_option maxHeartbeats 8000000 in
set_option maxRecDepth 100000 in
theorem Fi.calls (k : Nat) (a0_0 : ByteArray) (a0_1 : Int) (a1_0 : ByteArray) (a1_1 : Int) (r : Int) (w : World) (h : Fi.f k a0_0 a0_1 a1_0 a1_1=some r) :
  Calls Try.prog 58 #[.agg #[.string a0_0,.int .i64 a0_1],.agg #[.string a1_0,.int .i64 a1_1]] w fun e w' => e = .returned (.int .i64 r)∧Below w.heap.size w w':=by
 have hu51:=Try.underlying51;have HB:=zh (Below.refl w.heap.size w);have H : ((strings_Compare.f a0_0 a1_0).bind fun t223=>((F0k.f a0_1 a1_1).bind fun t224=>((Fs.f k (([t223,t224] : List Int))).bind fun t228=>(some t228))))=some r:=h;clear h;replace H:=zT.mp H;obtain ⟨t223,A30,H⟩:=H;have A3:=zh A30;clear A30;replace H:=zT.mp H;obtain ⟨t224,A40,H⟩:=H;have A4:=zh A40;clear A40;obtain ⟨y225,hy225⟩ : ∃ y_ : List Int,y_=(([t223,t224] : List Int)):=⟨_,rfl⟩;replace H : ((Fs.f k y225).bind fun t228=>(some t228))=some r:=by first|(rw [hy225];with_reducible exact H)|(have H2_:=(Option.bind_some _ _).symm.trans H;rw [hy225];with_reducible exact H2_)|(have H2_:=(Option.bind_some _ _).symm.trans H;with_reducible exact H2_)|with_reducible exact H|(rw [hy225];exact H)|exact H
 have Ny225:=zh hy225;clear hy225;replace H:=zT.mp H;obtain ⟨t228,A50,H⟩:=H;have A5:=zh A50;clear A50;obtain rfl:=zU H
 go_enter Try.func58,Try.ntmps58
 try go_wp2_with (first|((with_reducible refine zK (N:=2) rfl ?_);refine zI ?hg (N:=2) ?hd (cs:=#[.string a0_0,.int .i64 a0_1]) (t:=51) ?hr ?_;(case hd=>rfl);(case hg=>rfl);(case hr=>go_simp <;> rfl);intro gb221 hg w6 hbox hb;have BK221:=zh (hbox);have hH_:=cH jF hb hg;have GW221:=zh hH_.1;have GE221:=GW221;replace HB:=zh hH_.2;clear hb hbox hg hH_)|((with_reducible refine zK (N:=3) rfl ?_);refine zI ?hg (N:=3) ?hd (cs:=#[.string a1_0,.int .i64 a1_1]) (t:=51) ?hr ?_;(case hd=>rfl);(case hg=>rfl);(case hr=>go_simp <;> rfl);intro gb222 hg w7 hbox hb;have BK222:=zh (hbox);have hH_:=cH (by repeat (with_reducible first|exact HB.out|apply za|apply zb|apply zc|refine zd ?_ GE221.out)) hb hg;have GW222:=zh hH_.1;have GE222:=GW222;replace HB:=zh hH_.2;have NB221_222:=zh ((by rw [hg];exact yc (yi (g:=gb221) (o:=.cells #[.string a0_0,.int .i64 a0_1] 51 (0,0)) jBB) : gb221≠gb222));have NB222_221:=zh NB221_222.out.symm;replace BK221:=zh (cD BK221.out jBB hb);clear hb hbox hg hH_))
 replace BK221:=zh (zf BK221.out);replace BK222:=zh (zf BK222.out);replace HB:=zh (zc HB.out);refine start_ (n:=13) (S:=fun w' => w'.cell? ⟨gb221,0,none⟩=some (.string a0_0)∧w'.cell? ⟨gb221,1,none⟩=some (.int .i64 a0_1)∧w'.cell? ⟨gb222,0,none⟩=some (.string a1_0)∧w'.cell? ⟨gb222,1,none⟩=some (.int .i64 a1_1)) (ds:=[]) (bm_ 0 13) jA rfl rfl ⟨(zz BK221.out 0).trans rfl,(zz BK221.out 1).trans rfl,(zz BK222.out 0).trans rfl,(zz BK222.out 1).trans rfl⟩ (fun hHeld=>?_);refine with_tabW Fi.tab1 Fi.bits1 (fun HT_ HW_=>?_);generalize w7.drew=w8 at BK221 BK222 HB hHeld ⊢;refine pure_ (i:=0) (N:=some 5) (v:=?_) (a':=?_) (bm_ 1 13) rfl rfl (any_of HT_.out jA) (fun _ _ _ h=>h) (Or.inl ⟨by rfl,?_⟩) ?_ ?_;rotate_left;exact jb;rotate_left;exact jc
 refine pure_ (i:=2) (N:=some 7) (v:=?_) (a':=?_) #[true,false,true,false,false,false,false,false,false,false,false,false,false] rfl rfl (any_of HT_.out jA) (fun _ _ _ h=>h) (Or.inl ⟨by rfl,?_⟩) ?_ ?_;rotate_left;exact jb;rotate_left;exact jc
 refine pure_ (i:=5) (N:=some 10) (v:=?_) (a':=?_) #[true,false,true,false,false,true,false,false,false,false,false,false,false] rfl rfl (any_of HT_.out jA) (fun _ _ _ h=>h) (Or.inl ⟨by rfl,?_⟩) ?_ ?_;rotate_left;exact jb;rotate_left;exact jc
 refine pure_ (i:=7) (N:=some 12) (v:=?_) (a':=?_) #[true,false,true,false,false,true,false,true,false,false,false,false,false] rfl rfl (any_of HT_.out jA) (fun _ _ _ h=>h) (Or.inl ⟨by rfl,?_⟩) ?_ ?_;rotate_left;exact jb;rotate_left;exact jc
 refine take_ (i:=1) (N:=some 6) (v:=?_) (a':=?_) #[true,true,true,false,false,true,false,true,false,false,false,false,false] rfl rfl (yo HT_.out HW_.out jA) (fun _ _ _ h=>h) (Or.inl ⟨by rfl,?_⟩) hHeld ?_ ?_;rotate_left
 ·
  rintro w' ⟨s0,s1,s2,s3⟩
  go_simp
  with_reducible rfl
 rotate_left
 exact jc
 refine take_ (i:=3) (N:=some 8) (v:=?_) (a':=?_) #[true,true,true,true,false,true,false,true,false,false,false,false,false] rfl rfl (yo HT_.out HW_.out jA) (fun _ _ _ h=>h) (Or.inl ⟨by rfl,?_⟩) hHeld ?_ ?_;rotate_left
 ·
  rintro w' ⟨s0,s1,s2,s3⟩
  go_simp
  with_reducible rfl
 rotate_left
 exact jc
 refine take_ (i:=6) (N:=some 11) (v:=?_) (a':=?_) #[true,true,true,true,false,true,true,true,false,false,false,false,false] rfl rfl (yo HT_.out HW_.out jA) (fun _ _ _ h=>h) (Or.inl ⟨by rfl,?_⟩) hHeld ?_ ?_;rotate_left
 ·
  rintro w' ⟨s0,s1,s2,s3⟩
  go_simp
  with_reducible rfl
 rotate_left
 exact jc
 refine take_ (i:=8) (N:=some 13) (v:=?_) (a':=?_) #[true,true,true,true,false,true,true,true,true,false,false,false,false] rfl rfl (yo HT_.out HW_.out jA) (fun _ _ _ h=>h) (Or.inl ⟨by rfl,?_⟩) hHeld ?_ ?_;rotate_left
 ·
  rintro w' ⟨s0,s1,s2,s3⟩
  go_simp
  with_reducible rfl
 rotate_left
 exact jc
 refine one_ (i:=4) (N:=some 9) (bm_ 9 13) rfl rfl (one_of HT_.out jA) jB (fun K hK=>?_);refine goes_ Try.func71 jA rfl #[.string a0_0,.string a1_0] (by rfl) rfl rfl jG ?_
 with_reducible refine (strings_Compare.calls  a0_0 a1_0 t223 _ A3.out).mono ?_
 rintro e w' ⟨rfl,⟨nd,rfl⟩⟩;refine ⟨_,rfl,?_⟩;refine hK.out _ _ ⟨(zz BK221.out 0).trans rfl,(zz BK221.out 1).trans rfl,(zz BK222.out 0).trans rfl,(zz BK222.out 1).trans rfl⟩ (fun hHeld=>?_);clear hK K;refine norm_ (a':=?_) ?_ ?_;rotate_left
 ·
  show Act.put _ (some 9) _=_
  simp only [Act.put,zi,zj,zk,zG,zH]
  rfl
 refine one_ (i:=9) (N:=some 14) (bm_ 10 13) rfl rfl (one_of HT_.out jA) jB (fun K hK=>?_);refine goes_ Try.func72 jA rfl #[.int .i64 a0_1,.int .i64 a1_1] (by rfl) rfl rfl jG ?_
 with_reducible refine (F0k.calls  a0_1 a1_1 t224 _ A4.out).mono ?_
 rintro e w' ⟨rfl,⟨nd,rfl⟩⟩;refine ⟨_,rfl,?_⟩;refine hK.out _ _ ⟨(zz BK221.out 0).trans rfl,(zz BK221.out 1).trans rfl,(zz BK222.out 0).trans rfl,(zz BK222.out 1).trans rfl⟩ (fun hHeld=>?_);clear hK K;refine norm_ (a':=?_) ?_ ?_;rotate_left
 ·
  show Act.put _ (some 14) _=_
  simp only [Act.put,zi,zj,zk,zG,zH]
  rfl
 refine one_ (i:=10) (N:=some 15) (bm_ 11 13) rfl rfl (one_of HT_.out jA) jB (fun K hK=>?_);refine Kd.R_lit_step (Kd.int .i64) _ 3 ?hg (N:=15) ?hd (xs:=([t223,t224] : List Int)) (inner:=[.int .i64 t223,.int .i64 t224]) (ok:=fun _=>True) (okp:=fun _=>True) ?hr ?hp (fun _ hk=>hk) trivial (Below.refl _ _) (ye _) (by simp) ?_;(case hd=>rfl);(case hg=>rfl);(case hr=>go_simp <;> rfl);(case hp=>exact (Reps.one (show Kd.M (Kd.int .i64) _ _ _ t223 [.int .i64 t223] from rfl) (Reps.one (show Kd.M (Kd.int .i64) _ _ _ t224 [.int .i64 t224] from rfl) (Reps.none _ _))));intro v226 w9 ho10 hb hg_ hnew_;clear hg_ hnew_;(first|rw [← Ny225.out] at ho10|(simp only [Int.reduceToNat] at ho10;rw [← Ny225.out] at ho10));have HO227:=zh (yx ho10 (zB jBC));replace BK221:=zh (cD BK221.out jBB hb);replace BK222:=zh (cD BK222.out (by (with_reducible repeat first|apply ze|apply zf|apply zg);exact BK222.out) hb);replace HB:=zh (zC jBC hb);clear hb ho10;obtain ⟨Ao11,co11,eo11⟩:=yk HO227.out;(first|subst eo11|(injection eo11 with f1_ f2_ f3_;have f4_:=f1_.symm;have f5_:=f3_.symm;clear f1_ f2_ f3_;subst f4_;subst f5_));refine hK.out _ _ ⟨(zz BK221.out 0).trans rfl,(zz BK221.out 1).trans rfl,(zz BK222.out 0).trans rfl,(zz BK222.out 1).trans rfl⟩ (fun hHeld=>?_);clear hK K;refine norm_ (a':=?_) ?_ ?_;rotate_left
 ·
  show Act.put _ (some 15) _=_
  simp only [Act.put,zi,zj,zk,zG,zH]
  rfl
 refine one_ (i:=11) (N:=some 16) (bm_ 12 13) rfl rfl (one_of HT_.out jA) jB (fun K hK=>?_);refine goes_ Try.func70 jA rfl #[.slice Ao11 y225.length co11] (by rfl) rfl rfl jG ?_
 with_reducible refine (Fs.calls k  _ _ y225 t228 _ ?side1 ?side2 A5.out).mono ?_
 (case side1=>repeat (first|exact (yh HO227.out).2.2|(with_reducible refine Kd.C_alloc ?_ _)|(with_reducible refine Kd.C_drewN ?_ _)|(with_reducible refine Kd.C_drew ?_)))
 (case side2=>exact (yh HO227.out).2.1)
 rintro e w' ⟨rfl,⟨nd,rfl⟩⟩;refine ⟨_,rfl,?_⟩;refine hK.out _ _ ⟨(zz BK221.out 0).trans rfl,(zz BK221.out 1).trans rfl,(zz BK222.out 0).trans rfl,(zz BK222.out 1).trans rfl⟩ (fun hHeld=>?_);clear hK K;refine norm_ (a':=?_) ?_ ?_;rotate_left
 ·
  show Act.put _ (some 16) _=_
  simp only [Act.put,zi,zj,zk,zG,zH]
  rfl
 refine pure_ (i:=12) (N:=some 4) (v:=?_) (a':=?_) (bm_ 13 13) rfl rfl (any_of HT_.out jA) (fun _ _ _ h=>h) (Or.inl ⟨by rfl,?_⟩) ?_ ?_;rotate_left;exact jb;rotate_left;exact jc
 refine done_ (done_of HT_.out jA) ?_
 try go_wp2
 go_ret
 exact ⟨jH,jBC⟩

end Go.Proofs.Ytamikhmpfmgofaa.Q
end
