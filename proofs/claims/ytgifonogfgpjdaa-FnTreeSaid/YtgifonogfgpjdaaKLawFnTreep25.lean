/- Texts of this claim, merged by a program of this session. -/
import Derived.Test.YtgifonogfgpjdaaKLawFnTreep24
section
namespace Go.Proofs.Ytgifonogfgpjdaa.Q
open Go.RowKit Go.Proofs.YtgifonogfgpjdaaW.PrintWords Go.Proofs.YtgifonogfgpjdaaW.PrintLast Go.Proofs.YtgifonogfgpjdaaW.PrintMore
attribute [local go_sem] max2_int min2_int max_two min_two max_three min_three max_four min_four max2_str min2_str str_geq str_gtr str_leq
set_option linter.unusedVariables false
set_option linter.unusedSimpArgs false
attribute [local go_sem high] eqA28
theorem F6.three (w : World) (o0 o1 o2 : Obj) : (((w.alloc o0).alloc o1).alloc o2).heap[w.heap.size]? = some o0∧(((w.alloc o0).alloc o1).alloc o2).heap[w.heap.size+1]? = some o1∧(((w.alloc o0).alloc o1).alloc o2).heap[w.heap.size+1+1]? = some o2∧Below w.heap.size w (((w.alloc o0).alloc o1).alloc o2):=by
 refine ⟨zg (zg (blk_new w _) _) _,zg ?_ _,?_,za (za (za (Below.refl _ _) _) _) _⟩
 ·
  have:=blk_new (w.alloc o0) o1
  simpa using this
 have:=blk_new ((w.alloc o0).alloc o1) o2
 simpa using this
theorem F6.at_F {w : World} {ok : Nat→Prop} {A : Option Addr} {n : Nat} {xs : List S60} (h : Kd.F k60 w ok A n xs) (i : Int) (h0 : 0≤i) (h1 : i<n) : ∃ ad A1 c1,A=some ad∧w.cell? ⟨(ad.add (i.toNat*2)).block,(ad.add (i.toNat*2)).off+1,none⟩=some (.slice A1 (rd_T60 xs i).f1.length c1)∧(rd_T60 xs i).f1.length≤c1∧Kd.F k28 w ok A1 (rd_T60 xs i).f1.length (rd_T60 xs i).f1:=by
 obtain ⟨ad,c,e,_,hK,hc0,_⟩:=Kd.F_get h z60 i h0 h1;have hc : ∀ j u,c[j]? = some u→w.cell? (ad.add (i.toNat*2+j))=some u:=hc0;obtain ⟨A1,c1,rfl,l1,g1⟩:=k60_openF hK;exact ⟨ad,A1,c1,e,jDG,l1,g1⟩
theorem F6.w_next (i : Nat) (h : i≤4611686018427387904) : wrap64 ((i : Int)+1)=((i+1 : Nat) : Int):=by unfold wrap64;omega
theorem F6.K_M {w w' : World} {base : Nat} {ok : Nat→Prop} (x : S28) (cs : List Value) (h : k28.K w' x cs) : k28.M w base ok x cs:=by rw [k28_open h];exact k28_mkM _ _ _ _
def F6.at : List S28→ByteArray→Int→Nat→Option Nat
 | [],_,_,i=>some i
 | x :: xs,key,id,i=>(F0d.f x.f0 x.f1 key id).bind fun b=>(if b=true then F6.at xs key id (i+1) else some i)
def F6.row (l : List S28) (key : ByteArray) (id : Int) (i : Nat) : List S28:=l.take i ++ [(⟨key,id⟩ : S28)]++l.drop i
def F6.out (T : List S60) (n : Int) (j : Nat) (q : Int) (X : List S28) : List S60×Int×Int×Int:=if X.length≤4 then (T.set j (⟨q,X⟩ : S60),n,0,0) else (((T.set j (⟨q,X⟩ : S60)).set j (⟨q,X.take (X.length / 2)⟩ : S60)).take (j+1) ++ [(⟨n,X.drop (X.length / 2)⟩ : S60)]++((T.set j (⟨q,X⟩ : S60)).set j (⟨q,X.take (X.length / 2)⟩ : S60)).drop (j+1),n+1,n,0)
def F6.f (k : Nat) (l0_0 : List (S60)) (a0_1 : Int) (a1_0 : ByteArray) (a1_1 : Int) : Option ((List (S60))×Int×Int×Int):=(Fa.f k l0_0 a0_1 a1_0 a1_1).bind fun K=>(if 0≤K then (if K<(l0_0.length : Int) then (if l0_0.length≤4611686018427387904∧((rd_T60 l0_0 K).f1).length≤1000000 then ((F6.at ((rd_T60 l0_0 K).f1) a1_0 a1_1 0).bind fun i=>(if i<((rd_T60 l0_0 K).f1).length∧((rd_T28 ((rd_T60 l0_0 K).f1) (i : Int)).f0.toList == a1_0.toList && ((rd_T28 ((rd_T60 l0_0 K).f1) (i : Int)).f1 == a1_1))=true then some (l0_0,a0_1,0,12) else (if ((rd_T60 l0_0 K).f1).length=4∧(l0_0.length=60∨a0_1=100000) then some (l0_0,a0_1,0,7) else ((Fd.f k l0_0 a0_1).bind fun t=>(if K<(t.1.length : Int)∧t.1.length≤1000000∧wrap64 (t.2+1)=t.2+1 then some (F6.out t.1 t.2 K.toNat (rd_T60 t.1 K).f0 (F6.row ((rd_T60 l0_0 K).f1) a1_0 a1_1 i)) else none))))) else none) else none) else none)
theorem F6.mono : ∀ a0 a1 a2 a3 k,LeO (F6.f k a0 a1 a2 a3) (F6.f (k+1) a0 a1 a2 a3):=by
 intro a0 a1 a2 a3 k;unfold F6.f;exact zO (Fa.mono _ _ _ _ _) (fun K=>zP (zP (zP (zO (zQ _) (fun i=>zP (zQ _) (zP (zQ _) (zO (Fd.mono _ _ _) (fun _=>zQ _))))) (zN _)) (zN _)) (zN _))
theorem F6.at_le : ∀ (l : List S28) (key : ByteArray) (id : Int) (i r : Nat),F6.at l key id i=some r→i≤r∧r≤i+l.length
 | [],_,_,i,r,h=>by
  injection h with h;simp only [List.length_nil];omega
 | x :: xs,key,id,i,r,h=>by
  unfold F6.at at h;obtain ⟨b,_,h⟩:=zT.mp h
  by_cases c : b=true
  ·
   rw [if_pos c] at h
   have:=F6.at_le xs key id (i+1) r h;simp only [List.length_cons];omega
  rw [if_neg c] at h;injection h with h;simp only [List.length_cons];omega
set_option maxHeartbeats 16000000 in
set_option maxRecDepth 100000 in
theorem F6.calls (k : Nat) (P0_0_ : Nat→Prop) (A0_0 : Option Addr) (c0_0 : Nat) (l0_0 : List (S60)) (a0_1 : Int) (a1_0 : ByteArray) (a1_1 : Int) (r1 : List (S60)) (r2 : Int) (r3 : Int) (r4 : Int) (w : World) (hs0_0 : Kd.V k60 60 w w.heap.size (fun k_=>P0_0_ k_) (.slice A0_0 l0_0.length c0_0) l0_0) (h : F6.f k l0_0 a0_1 a1_0 a1_1=some (r1,r2,r3,r4)) :
  Calls Try.prog 36 #[.agg #[.slice A0_0 l0_0.length c0_0,.int .i64 a0_1],.agg #[.string a1_0,.int .i64 a1_1]] w fun e w' => ∃ v0_ : Value,e = .returned (.tuple #[.agg #[v0_,.int .i64 r2],.int .i64 r3,.int .i64 r4])∧Kd.V k60 60 w' w.heap.size (fun k_=>(P0_0_ k_∨w.heap.size≤k_)) v0_ r1∧Below w.heap.size w w':=by
 have hu25:=Try.underlying25;have hu28:=Try.underlying28;have mixed : Try.prog.follows Departure.mixedOrders=true:=by rfl
 have late : Try.prog.follows Departure.lateStores=true:=by rfl
 unfold F6.f at h;obtain ⟨pl,hK,h⟩:=zT.mp h
 by_cases hK0 : 0≤pl
 case neg=>rw [if_neg hK0] at h;cases h
 rw [if_pos hK0] at h
 by_cases hK1 : pl<(l0_0.length : Int)
 case neg=>rw [if_neg hK1] at h;cases h
 rw [if_pos hK1] at h;obtain ⟨l,hl⟩ : ∃ l,l=(rd_T60 l0_0 pl).f1:=⟨_,rfl⟩;rw [← hl] at h
 by_cases hlm : l0_0.length≤4611686018427387904∧l.length≤1000000
 case neg=>rw [if_neg hlm] at h;cases h
 rw [if_pos hlm] at h;obtain ⟨-,hc0_0,hF0⟩:=Kd.V_at hs0_0;obtain ⟨ad,Al,cl,rfl,hxl,hlc,hFl⟩:=F6.at_F hF0 pl hK0 hK1;rw [← hl] at hxl hlc hFl;have HF0:=zh hF0;have HFl:=zh hFl;have HXL:=zh hxl;have HLC:=zh hlc;have HLM:=zh hlm;have HL:=zh hl;obtain ⟨V,hV⟩ : ∃ V,V=((w.alloc (.cells #[.slice (some ad) l0_0.length c0_0,.int .i64 a0_1] 25)).alloc (.cells #[.string a1_0,.int .i64 a1_1] 28)).alloc (.cells #[.slice none 0 0,.int .i64 0] 25):=⟨_,rfl⟩;obtain ⟨h0,h1,h2,hBV⟩:=F6.three w (.cells #[.slice (some ad) l0_0.length c0_0,.int .i64 a0_1] 25) (.cells #[.string a1_0,.int .i64 a1_1] 28) (.cells #[.slice none 0 0,.int .i64 0] 25);rw [← hV] at h0 h1 h2 hBV;obtain ⟨g0,hg0⟩ : ∃ g,g=w.heap.size:=⟨_,rfl⟩;rw [← hg0] at h0 h1 h2;obtain ⟨g1,hg1⟩ : ∃ g,g=g0+1:=⟨_,rfl⟩;rw [← hg1] at h1 h2;obtain ⟨g2,hg2⟩ : ∃ g,g=g1+1:=⟨_,rfl⟩;rw [← hg2] at h2;have hb0 : w.heap.size≤g0:=Nat.le_of_eq hg0.symm;have hb1 : w.heap.size≤g1:=by rw [hg1,hg0];exact Nat.le_add_right _ _
 have hb2 : w.heap.size≤g2:=by rw [hg2,hg1,hg0,Nat.add_assoc];exact Nat.le_add_right _ _
 have n02 : g0≠g2:=by omega
 have n10 : g1≠g0:=by omega
 have HB0:=zh hBV;have H0_0:=zh h0;have H1_0:=zh h1;have H2_0:=zh h2;have GB0:=zh hb0;have GB1:=zh hb1;have GB2:=zh hb2;have N02:=zh n02;have N10:=zh n10;have k0:=(zz h0 0).trans (show _=some (.slice (some ad) l0_0.length c0_0) from rfl);have k1:=(zz h0 1).trans (show _=some (.int .i64 a0_1) from rfl);have k2:=(zz h1 0).trans (show _=some (.string a1_0) from rfl);have k3:=(zz h1 1).trans (show _=some (.int .i64 a1_1) from rfl);clear h0 h1 h2 hBV hF0 hFl hxl hlc hlm hb0 hb1 hb2 n02 n10 hs0_0
 go_enter Try.func36,Try.ntmps36
 go_wp2_with fail
 rw [← hV];simp only [← hg0];simp only [← hg1];simp only [← hg2];clear hV hg0 hg1 hg2
 go_at_call 39
 refine (Fa.calls k (some ad) c0_0 l0_0 a0_1 a1_0 a1_1 pl V (Kd.F_now (Kd.F_below HF0.out HB0.out)) hc0_0 hK).mono ?_;rintro e w1 ⟨rfl,hb_⟩;have HB1:=zh (zC HB0.out hb_);have H0_1:=zh (zD H0_0.out hb_);have H1_1:=zh (zD H1_0.out hb_);have H2_1:=zh (zD H2_0.out hb_);clear k0 k1 k2 k3 hb_ hK HB0 H0_0 H1_0 H2_0;have k0:=(zz H0_1.out 0).trans (show _=some (.slice (some ad) l0_0.length c0_0) from rfl);have kx:=(HB1.out.cell (zl w _ HXL.out)).trans HXL.out;have hp0:=eq_true hK0;have hp1:=eq_true hK1;clear hl
 go_upto_block 0 with (fail)
 obtain ⟨im,hI,h⟩:=zT.mp h;have HH:=zh h;have HR0:=zh hI;have HIL : Aside0 (im≤l.length):=⟨by have:=F6.at_le _ _ _ _ _ hI;omega⟩;clear k0 kx h hI
 go_cut [9] (fun v9 wc=>v9 = .int .i64 (im : Int)∧Aside0 (wc.heap[g0]? = some (.cells #[.slice (some ad) l0_0.length c0_0,.int .i64 a0_1] 25 (0,0)))∧Aside0 (wc.heap[g1]? = some (.cells #[.string a1_0,.int .i64 a1_1] 28 (0,0)))∧Aside0 (wc.heap[g2]? = some (.cells #[.slice none 0 0,.int .i64 0] 25 (0,0)))∧Aside0 (Below w.heap.size w wc))
 case first =>
  go_wp2_with fail
  go_loopg [9] l.length (fun kq v9 wc => ∃ (i : Nat),v9 = .int .i64 (i : Int)∧Aside0 (kq+i=l.length)∧Aside0 (F6.at (l.drop i) a1_0 a1_1 i=some im)∧Aside0 (wc.heap[g0]? = some (.cells #[.slice (some ad) l0_0.length c0_0,.int .i64 a0_1] 25 (0,0)))∧Aside0 (wc.heap[g1]? = some (.cells #[.string a1_0,.int .i64 a1_1] 28 (0,0)))∧Aside0 (wc.heap[g2]? = some (.cells #[.slice none 0 0,.int .i64 0] 25 (0,0)))∧Aside0 (Below w.heap.size w wc))
  case atStart=>exact ⟨0,rfl,⟨jD⟩,⟨by rw [List.drop_zero];exact HR0.out⟩,H0_1,H1_1,H2_1,HB1⟩
  case round =>
   clear H0_1 H1_1 H2_1 HB1 HR0 HH;obtain ⟨i,rfl,HI,HA,H0_2,H1_2,H2_2,HB2⟩:=hrel
   by_cases hil : i<l.length
   ·
    have c3 : decide ((i : Int)<(l.length : Int))=true:=decide_eq_true (Int.ofNat_lt.2 hil)
    have hi0 : (0≤(i : Int))=True:=eq_true (Int.natCast_nonneg i);have hi1 : ((i : Int)<(l.length : Int))=True:=eq_true (Int.ofNat_lt.2 hil);have hwi:=F6.w_next i (Nat.le_trans (Nat.le_of_lt hil) (Nat.le_trans HLM.out.2 jB));obtain ⟨kq,rfl⟩ : ∃ q,gk=q+1:=⟨gk - 1,by have:=HI.out;omega⟩;obtain ⟨ae,hAe,hx0_,hx1_⟩:=at_T28 (Kd.F_now HFl.out) (i : Int) (Int.natCast_nonneg _) (Int.ofNat_lt.2 hil)
    cases hAe
    rw [Int.toNat_natCast] at hx0_ hx1_;have hx0:=(HB2.out.cell (zl w _ hx0_)).trans hx0_;have hx1:=(HB2.out.cell (zl w _ hx1_)).trans hx1_;have hA:=HA.out;rw [List.drop_eq_getElem_cons hil] at hA;simp only [F6.at] at hA
    have er : l[i]=rd_T28 l (i : Int):=by
     unfold rd_T28;rw [List.getD_eq_getElem?_getD,Int.toNat_natCast,List.getElem?_eq_getElem hil];rfl
    rw [er] at hA;obtain ⟨bl,hbl,hA⟩:=zT.mp hA;have HA2:=zh hA;clear hA er HA hx0_ hx1_;have k2:=(zz H1_2.out 0).trans (show _=some (.string a1_0) from rfl);have k3:=(zz H1_2.out 1).trans (show _=some (.int .i64 a1_1) from rfl)
    go_wp2_with fail
    have HB3:=zh (zc HB2.out);have H0_3:=zh (zf H0_2.out);have H1_3:=zh (zf H1_2.out);have H2_3:=zh (zf H2_2.out);refine start_ (n:=12) (S:=fun w' => w'.cell? (ae.add (i*2))=some (.string (rd_T28 l (i : Int)).f0)∧w'.cell? ⟨(ae.add (i*2)).block,(ae.add (i*2)).off+1,none⟩=some (.int .i64 (rd_T28 l (i : Int)).f1)∧w'.cell? ⟨g1,0,none⟩=some (.string a1_0)∧w'.cell? ⟨g1,1,none⟩=some (.int .i64 a1_1)) (ds:=[10]) (bm_ 0 12) jA rfl rfl ⟨hx0,hx1,k2,k3⟩ (fun hHeld=>?_);generalize wr.drew=w3 at HB3 H0_3 H1_3 H2_3 hHeld ⊢;clear hx0 hx1 k2 k3 HB2 H0_2 H1_2 H2_2;refine pure_ (i:=0) (N:=some 21) (v:=?_) (a':=?_) (bm_ 1 12) rfl rfl jA (fun _ _ _ h=>h) (Or.inl ⟨by rfl,?_⟩) ?_ ?_;rotate_left;exact jb;rotate_left;exact jc
    refine pure_ (i:=1) (N:=some 22) (v:=?_) (a':=?_) (bm_ 2 12) rfl rfl jA (fun _ _ _ h=>h) (Or.inl ⟨by rfl,?_⟩) ?_ ?_;rotate_left;exact jb;rotate_left;exact jc
    refine pure_ (i:=2) (N:=some 23) (v:=?_) (a':=?_) (bm_ 3 12) rfl rfl jA (fun _ _ _ h=>h) (Or.inl ⟨by rfl,?_⟩) ?_ ?_;rotate_left;exact jb;rotate_left;exact jc
    refine pure_ (i:=3) (N:=some 24) (v:=?_) (a':=?_) (bm_ 4 12) rfl rfl jA (fun _ _ _ h=>h) (Or.inl ⟨by rfl,?_⟩) ?_ ?_;rotate_left;exact jb;rotate_left;exact jc
    refine pure_ (i:=4) (N:=some 25) (v:=?_) (a':=?_) (bm_ 5 12) rfl rfl jA (fun _ _ _ h=>h) (Or.inl ⟨by rfl,?_⟩) ?_ ?_;rotate_left;exact jb;rotate_left;exact jc
    refine pure_ (i:=5) (N:=some 26) (v:=?_) (a':=?_) (bm_ 6 12) rfl rfl jA (fun _ _ _ h=>h) (Or.inl ⟨by rfl,?_⟩) ?_ ?_;rotate_left;exact jb;rotate_left;exact jc
    refine pure_ (i:=6) (N:=some 27) (v:=?_) (a':=?_) (bm_ 7 12) rfl rfl jA (fun _ _ _ h=>h) (Or.inl ⟨by rfl,?_⟩) ?_ ?_;rotate_left;exact jb;rotate_left;exact jc
    refine pure_ (i:=7) (N:=some 28) (v:=?_) (a':=?_) (bm_ 8 12) rfl rfl jA (fun _ _ _ h=>h) (Or.inl ⟨by rfl,?_⟩) ?_ ?_;rotate_left;exact jb;rotate_left;exact jc
    refine take_ (i:=8) (N:=some 29) (v:=?_) (a':=?_) (bm_ 9 12) rfl rfl jA (fun _ _ _ h=>h) (Or.inl ⟨by rfl,?_⟩) hHeld ?_ ?_;rotate_left
    ·
     rintro w' ⟨s0,s1,s2,s3⟩
     go_simp
     with_reducible rfl
    rotate_left
    exact jc
    refine take_ (i:=9) (N:=some 30) (v:=?_) (a':=?_) (bm_ 10 12) rfl rfl jA (fun _ _ _ h=>h) (Or.inl ⟨by rfl,?_⟩) hHeld ?_ ?_;rotate_left
    ·
     rintro w' ⟨s0,s1,s2,s3⟩
     go_simp
     with_reducible rfl
    rotate_left
    exact jc
    refine last_ (i:=10) (N:=some 31) (bm_ 11 12) rfl rfl jA jB (fun K hK=>?_);refine goes_ Try.func50 jA rfl #[.agg #[.string (rd_T28 l (i : Int)).f0,.int .i64 (rd_T28 l (i : Int)).f1],.agg #[.string a1_0,.int .i64 a1_1]] (by rfl) rfl rfl jAC ?_
    with_reducible refine (F0d.calls (rd_T28 l (i : Int)).f0 (rd_T28 l (i : Int)).f1 a1_0 a1_1 bl _ hbl).mono ?_
    rintro e w4 ⟨rfl,hb_⟩;refine ⟨_,rfl,?_⟩;refine hK.out _ _ ?_;clear hK K;refine norm_ (a':=?_) ?_ ?_;rotate_left
    ·
     show Act.put _ (some 31) _=_
     simp only [Act.put,zi,zj,zk,zG,zH]
     rfl
    refine pure_ (i:=11) (N:=some 32) (v:=?_) (a':=?_) (bm_ 12 12) rfl rfl jA (fun _ _ _ h=>h) (Or.inl ⟨by rfl,?_⟩) ?_ ?_;rotate_left;exact jb;rotate_left;exact jc
    refine done_ jA ?_;have HB4:=zh (zC HB3.out hb_);have H0_4:=zh (zD H0_3.out hb_);have H1_4:=zh (zD H1_3.out hb_);have H2_4:=zh (zD H2_3.out hb_);have hA3:=HA2.out;clear hbl hb_ HA2 HB3 H0_3 H1_3 H2_3
    cases bl with
    | true =>
     replace hA3 : F6.at (l.drop (i+1)) a1_0 a1_1 (i+1)=some im:=hA3;have HA3:=zh hA3;clear hA3
     go_wp2_with fail
     go_roundg kq
     case measure=>exact Nat.lt_succ_self _
     case rel=>exact ⟨i+1,by first|rfl|rw [hwi],⟨by have:=HI.out;omega⟩,HA3,H0_4,H1_4,H2_4,HB4⟩
    | false =>
     replace hA3 : some i=some im:=hA3;obtain rfl:=zU hA3;clear hA3
     go_wp2_with fail
     go_meet
     case rel=>exact ⟨rfl,H0_4,H1_4,H2_4,HB4⟩
   have c3 : decide ((i : Int)<(l.length : Int))=false:=decide_eq_false (fun h9=>hil (Int.ofNat_lt.1 h9));have hA:=HA.out;rw [List.drop_of_length_le (Nat.le_of_not_lt hil)] at hA;replace hA : some i=some im:=hA;obtain rfl:=zU hA;clear hA
   go_wp2_with fail
   have HB3:=zh (zc HB2.out);have H0_3:=zh (zf H0_2.out);have H1_3:=zh (zf H1_2.out);have H2_3:=zh (zf H2_2.out);refine start_ (n:=12) (S:=fun w' => True) (ds:=[]) (bm_ 0 12) jA rfl rfl trivial (fun hHeld=>?_);generalize wr.drew=w3 at HB3 H0_3 H1_3 H2_3 hHeld ⊢;clear HB2 H0_2 H1_2 H2_2;refine pure_ (i:=0) (N:=some 21) (v:=?_) (a':=?_) (bm_ 1 12) rfl rfl jA (fun _ _ _ h=>h) (Or.inl ⟨by rfl,?_⟩) ?_ ?_;rotate_left;exact jb;rotate_left;exact jc
   refine pure_ (i:=1) (N:=some 22) (v:=?_) (a':=?_) (bm_ 2 12) rfl rfl jA (fun _ _ _ h=>h) (Or.inl ⟨by rfl,?_⟩) ?_ ?_;rotate_left;exact jb;rotate_left;exact jc
   refine pure_ (i:=2) (N:=some 23) (v:=?_) (a':=?_) (bm_ 3 12) rfl rfl jA (fun _ _ _ h=>h) (Or.inl ⟨by rfl,?_⟩) ?_ ?_;rotate_left;exact jb;rotate_left;exact jc
   refine pure_ (i:=3) (N:=some 24) (v:=?_) (a':=?_) (bm_ 4 12) rfl rfl jA (fun _ _ _ h=>h) (Or.inl ⟨by rfl,?_⟩) ?_ ?_;rotate_left;exact jb;rotate_left;exact jc
   refine pure_ (i:=4) (N:=some 25) (v:=?_) (a':=?_) (bm_ 5 12) rfl rfl jA (fun _ _ _ h=>h) (Or.inl ⟨by rfl,?_⟩) ?_ ?_;rotate_left;exact jb;rotate_left;exact jc
   refine pure_ (i:=5) (N:=some 26) (v:=undef) (a':=?_) (bm_ 6 12) rfl rfl jA (fun _ _ _ h=>h) (Or.inr ⟨by rfl,rfl⟩) ?_ ?_;rotate_left
   exact jc
   refine pure_ (i:=6) (N:=some 27) (v:=undef) (a':=?_) (bm_ 7 12) rfl rfl jA (fun _ _ _ h=>h) (Or.inr ⟨by rfl,rfl⟩) ?_ ?_;rotate_left
   exact jc
   refine pure_ (i:=7) (N:=some 28) (v:=undef) (a':=?_) (bm_ 8 12) rfl rfl jA (fun _ _ _ h=>h) (Or.inr ⟨by rfl,rfl⟩) ?_ ?_;rotate_left
   exact jc
   refine pure_ (i:=8) (N:=some 29) (v:=undef) (a':=?_) (bm_ 9 12) rfl rfl jA (fun _ _ _ h=>h) (Or.inr ⟨by rfl,rfl⟩) ?_ ?_;rotate_left
   exact jc
   refine pure_ (i:=9) (N:=some 30) (v:=undef) (a':=?_) (bm_ 10 12) rfl rfl jA (fun _ _ _ h=>h) (Or.inr ⟨by rfl,rfl⟩) ?_ ?_;rotate_left
   exact jc
   refine pure_ (i:=10) (N:=some 31) (v:=undef) (a':=?_) (bm_ 11 12) rfl rfl jA (fun _ _ _ h=>h) (Or.inr ⟨by rfl,rfl⟩) ?_ ?_;rotate_left
   exact jc
   refine pure_ (i:=11) (N:=some 32) (v:=?_) (a':=?_) (bm_ 12 12) rfl rfl jA (fun _ _ _ h=>h) (Or.inl ⟨by rfl,?_⟩) ?_ ?_;rotate_left;exact jb;rotate_left;exact jc
   refine done_ jA ?_
   go_wp2_with fail
   go_meet
   case rel=>exact ⟨rfl,H0_3,H1_3,H2_3,HB3⟩
 case rest =>
  clear H0_1 H1_1 H2_1 HB1 HR0;obtain ⟨rfl,H0_1,H1_1,H2_1,HB1⟩:=hcut
  go_upto_region 6 with (fail)
  go_cut [46] (fun v46 wc => ∃ b : Bool,v46 = .bool b∧Aside0 ((if b=true then some (l0_0,a0_1,0,12) else (if l.length=4∧(l0_0.length=60∨a0_1=100000) then some (l0_0,a0_1,0,7) else ((Fd.f k l0_0 a0_1).bind fun t=>(if pl<(t.1.length : Int)∧t.1.length≤1000000∧wrap64 (t.2+1)=t.2+1 then some (F6.out t.1 t.2 pl.toNat (rd_T60 t.1 pl).f0 (F6.row l a1_0 a1_1 im)) else none))))=some (r1,r2,r3,r4))∧Aside0 (wc.heap[g0]? = some (.cells #[.slice (some ad) l0_0.length c0_0,.int .i64 a0_1] 25 (0,0)))∧Aside0 (wc.heap[g1]? = some (.cells #[.string a1_0,.int .i64 a1_1] 28 (0,0)))∧Aside0 (wc.heap[g2]? = some (.cells #[.slice none 0 0,.int .i64 0] 25 (0,0)))∧Aside0 (Below w.heap.size w wc))
  case first =>
   have h:=HH.out;clear HH
   by_cases hil : im<l.length
   ·
    have c3 : decide ((im : Int)<(l.length : Int))=true:=decide_eq_true (Int.ofNat_lt.2 hil)
    have hi0 : (0≤(im : Int))=True:=eq_true (Int.natCast_nonneg im);have hi1 : ((im : Int)<(l.length : Int))=True:=eq_true (Int.ofNat_lt.2 hil);obtain ⟨ae,hAe,hx0_,hx1_⟩:=at_T28 (Kd.F_now HFl.out) (im : Int) (Int.natCast_nonneg _) (Int.ofNat_lt.2 hil)
    cases hAe
    rw [Int.toNat_natCast] at hx0_ hx1_;clear hi0;have hi0 : (0≤(im : Int))=True:=eq_true (Int.natCast_nonneg im);have hx0:=(HB1.out.cell (zl w _ hx0_)).trans hx0_;have hx1:=(HB1.out.cell (zl w _ hx1_)).trans hx1_;have k2:=(zz H1_1.out 0).trans (show _=some (.string a1_0) from rfl);have k3:=(zz H1_1.out 1).trans (show _=some (.int .i64 a1_1) from rfl);clear hx0_ hx1_
    go_wp2_with fail
    have HB3:=zh (zc HB1.out);have H0_3:=zh (zf H0_1.out);have H1_3:=zh (zf H1_1.out);have H2_3:=zh (zf H2_1.out);refine start_ (n:=12) (S:=fun w' => w'.cell? (ae.add (im*2))=some (.string (rd_T28 l (im : Int)).f0)∧w'.cell? ⟨(ae.add (im*2)).block,(ae.add (im*2)).off+1,none⟩=some (.int .i64 (rd_T28 l (im : Int)).f1)∧w'.cell? ⟨g1,0,none⟩=some (.string a1_0)∧w'.cell? ⟨g1,1,none⟩=some (.int .i64 a1_1)) (ds:=[]) (bm_ 0 12) jA rfl rfl ⟨hx0,hx1,k2,k3⟩ (fun hHeld=>?_);generalize wc.drew=w3 at HB3 H0_3 H1_3 H2_3 hHeld ⊢;clear hx0 hx1 k2 k3 HB1 H0_1 H1_1 H2_1;refine pure_ (i:=0) (N:=some 35) (v:=?_) (a':=?_) (bm_ 1 12) rfl rfl jA (fun _ _ _ h=>h) (Or.inl ⟨by rfl,?_⟩) ?_ ?_;rotate_left;exact jb;rotate_left;exact jc
    refine pure_ (i:=1) (N:=some 36) (v:=?_) (a':=?_) (bm_ 2 12) rfl rfl jA (fun _ _ _ h=>h) (Or.inl ⟨by rfl,?_⟩) ?_ ?_;rotate_left;exact jb;rotate_left;exact jc
    refine pure_ (i:=2) (N:=some 37) (v:=?_) (a':=?_) (bm_ 3 12) rfl rfl jA (fun _ _ _ h=>h) (Or.inl ⟨by rfl,?_⟩) ?_ ?_;rotate_left;exact jb;rotate_left;exact jc
    refine pure_ (i:=3) (N:=some 38) (v:=?_) (a':=?_) (bm_ 4 12) rfl rfl jA (fun _ _ _ h=>h) (Or.inl ⟨by rfl,?_⟩) ?_ ?_;rotate_left;exact jb;rotate_left;exact jc
    refine pure_ (i:=4) (N:=some 39) (v:=?_) (a':=?_) (bm_ 5 12) rfl rfl jA (fun _ _ _ h=>h) (Or.inl ⟨by rfl,?_⟩) ?_ ?_;rotate_left;exact jb;rotate_left;exact jc
    refine pure_ (i:=5) (N:=some 40) (v:=?_) (a':=?_) (bm_ 6 12) rfl rfl jA (fun _ _ _ h=>h) (Or.inl ⟨by rfl,?_⟩) ?_ ?_;rotate_left;exact jb;rotate_left;exact jc
    refine pure_ (i:=6) (N:=some 41) (v:=?_) (a':=?_) (bm_ 7 12) rfl rfl jA (fun _ _ _ h=>h) (Or.inl ⟨by rfl,?_⟩) ?_ ?_;rotate_left;exact jb;rotate_left;exact jc
    refine pure_ (i:=7) (N:=some 42) (v:=?_) (a':=?_) (bm_ 8 12) rfl rfl jA (fun _ _ _ h=>h) (Or.inl ⟨by rfl,?_⟩) ?_ ?_;rotate_left;exact jb;rotate_left;exact jc
    refine take_ (i:=8) (N:=some 43) (v:=?_) (a':=?_) (bm_ 9 12) rfl rfl jA (fun _ _ _ h=>h) (Or.inl ⟨by rfl,?_⟩) hHeld ?_ ?_;rotate_left
    ·
     rintro w' ⟨s0,s1,s2,s3⟩
     go_simp
     with_reducible rfl
    rotate_left
    exact jc
    refine take_ (i:=9) (N:=some 44) (v:=?_) (a':=?_) (bm_ 10 12) rfl rfl jA (fun _ _ _ h=>h) (Or.inl ⟨by rfl,?_⟩) hHeld ?_ ?_;rotate_left
    ·
     rintro w' ⟨s0,s1,s2,s3⟩
     go_simp
     with_reducible rfl
    rotate_left
    exact jc
    refine pure_ (i:=10) (N:=some 45) (v:=?_) (a':=?_) (bm_ 11 12) rfl rfl jA (fun _ _ _ h=>h) (Or.inl ⟨by rfl,?_⟩) ?_ ?_;rotate_left;exact jb;rotate_left;exact jc
    refine pure_ (i:=11) (N:=some 46) (v:=?_) (a':=?_) (bm_ 12 12) rfl rfl jA (fun _ _ _ h=>h) (Or.inl ⟨by rfl,?_⟩) ?_ ?_;rotate_left;exact jb;rotate_left;exact jc
    refine done_ jA ?_;obtain ⟨bA,hbA⟩ : ∃ b,b=((rd_T28 l (im : Int)).f0.toList == a1_0.toList && ((rd_T28 l (im : Int)).f1 == a1_1)):=⟨_,rfl⟩;rw [← hbA] at h ⊢;clear hbA
    have H' : Aside0 ((if bA=true then some (l0_0,a0_1,0,12) else (if l.length=4∧(l0_0.length=60∨a0_1=100000) then some (l0_0,a0_1,0,7) else ((Fd.f k l0_0 a0_1).bind fun t=>(if pl<(t.1.length : Int)∧t.1.length≤1000000∧wrap64 (t.2+1)=t.2+1 then some (F6.out t.1 t.2 pl.toNat (rd_T60 t.1 pl).f0 (F6.row l a1_0 a1_1 im)) else none))))=some (r1,r2,r3,r4)):=⟨by
     cases bA with
     | true=>rw [if_pos ⟨hil,rfl⟩] at h;rw [if_pos rfl];exact h
     | false=>rw [if_neg (fun h9=>by cases h9.2)] at h;rw [if_neg jB];exact h⟩
    clear h
    go_wp2_with fail
    go_meet
    case rel=>exact ⟨bA,rfl,H',H0_3,H1_3,H2_3,HB3⟩
   have c3 : decide ((im : Int)<(l.length : Int))=false:=decide_eq_false (fun h9=>hil (Int.ofNat_lt.1 h9));rw [if_neg (fun h9=>hil h9.1)] at h;have H' : Aside0 ((if false=true then some (l0_0,a0_1,0,12) else (if l.length=4∧(l0_0.length=60∨a0_1=100000) then some (l0_0,a0_1,0,7) else ((Fd.f k l0_0 a0_1).bind fun t=>(if pl<(t.1.length : Int)∧t.1.length≤1000000∧wrap64 (t.2+1)=t.2+1 then some (F6.out t.1 t.2 pl.toNat (rd_T60 t.1 pl).f0 (F6.row l a1_0 a1_1 im)) else none))))=some (r1,r2,r3,r4)):=⟨jCL⟩;clear h
   go_wp2_with fail
   have HB3:=zh (zc HB1.out);have H0_3:=zh (zf H0_1.out);have H1_3:=zh (zf H1_1.out);have H2_3:=zh (zf H2_1.out);refine start_ (n:=12) (S:=fun w' => True) (ds:=[]) (bm_ 0 12) jA rfl rfl trivial (fun hHeld=>?_);generalize wc.drew=w3 at HB3 H0_3 H1_3 H2_3 hHeld ⊢;clear HB1 H0_1 H1_1 H2_1;refine pure_ (i:=0) (N:=some 35) (v:=?_) (a':=?_) (bm_ 1 12) rfl rfl jA (fun _ _ _ h=>h) (Or.inl ⟨by rfl,?_⟩) ?_ ?_;rotate_left;exact jb;rotate_left;exact jc
   refine pure_ (i:=1) (N:=some 36) (v:=?_) (a':=?_) (bm_ 2 12) rfl rfl jA (fun _ _ _ h=>h) (Or.inl ⟨by rfl,?_⟩) ?_ ?_;rotate_left;exact jb;rotate_left;exact jc
   refine pure_ (i:=2) (N:=some 37) (v:=?_) (a':=?_) (bm_ 3 12) rfl rfl jA (fun _ _ _ h=>h) (Or.inl ⟨by rfl,?_⟩) ?_ ?_;rotate_left;exact jb;rotate_left;exact jc
   refine pure_ (i:=3) (N:=some 38) (v:=?_) (a':=?_) (bm_ 4 12) rfl rfl jA (fun _ _ _ h=>h) (Or.inl ⟨by rfl,?_⟩) ?_ ?_;rotate_left;exact jb;rotate_left;exact jc
   refine pure_ (i:=4) (N:=some 39) (v:=?_) (a':=?_) (bm_ 5 12) rfl rfl jA (fun _ _ _ h=>h) (Or.inl ⟨by rfl,?_⟩) ?_ ?_;rotate_left;exact jb;rotate_left;exact jc
   refine pure_ (i:=5) (N:=some 40) (v:=undef) (a':=?_) (bm_ 6 12) rfl rfl jA (fun _ _ _ h=>h) (Or.inr ⟨by rfl,rfl⟩) ?_ ?_;rotate_left
   exact jc
   refine pure_ (i:=6) (N:=some 41) (v:=undef) (a':=?_) (bm_ 7 12) rfl rfl jA (fun _ _ _ h=>h) (Or.inr ⟨by rfl,rfl⟩) ?_ ?_;rotate_left
   exact jc
   refine pure_ (i:=7) (N:=some 42) (v:=undef) (a':=?_) (bm_ 8 12) rfl rfl jA (fun _ _ _ h=>h) (Or.inr ⟨by rfl,rfl⟩) ?_ ?_;rotate_left
   exact jc
   refine pure_ (i:=8) (N:=some 43) (v:=undef) (a':=?_) (bm_ 9 12) rfl rfl jA (fun _ _ _ h=>h) (Or.inr ⟨by rfl,rfl⟩) ?_ ?_;rotate_left
   exact jc
   refine pure_ (i:=9) (N:=some 44) (v:=undef) (a':=?_) (bm_ 10 12) rfl rfl jA (fun _ _ _ h=>h) (Or.inr ⟨by rfl,rfl⟩) ?_ ?_;rotate_left
   exact jc
   refine pure_ (i:=10) (N:=some 45) (v:=undef) (a':=?_) (bm_ 11 12) rfl rfl jA (fun _ _ _ h=>h) (Or.inr ⟨by rfl,rfl⟩) ?_ ?_;rotate_left
   exact jc
   refine pure_ (i:=11) (N:=some 46) (v:=?_) (a':=?_) (bm_ 12 12) rfl rfl jA (fun _ _ _ h=>h) (Or.inl ⟨by rfl,?_⟩) ?_ ?_;rotate_left;exact jb;rotate_left;exact jc
   refine done_ jA ?_
   go_wp2_with fail
   go_meet
   case rel=>exact ⟨false,rfl,H',H0_3,H1_3,H2_3,HB3⟩
  case rest =>
   clear HH H0_1 H1_1 H2_1 HB1;obtain ⟨b6,rfl,HH,H0_1,H1_1,H2_1,HB1⟩:=hcut
   cases b6
   case true =>
    have h:=HH.out;rw [if_pos rfl] at h;simp only [Option.some.injEq,Prod.mk.injEq] at h;clear HH;obtain ⟨rfl,rfl,rfl,rfl⟩:=h;have k0:=zz H0_1.out 0;have k1:=zz H0_1.out 1;have k2:=zz H2_1.out 0;have k3:=zz H2_1.out 1;have f0:=zA H2_1.out 0;have f1:=zA H2_1.out 1
    go_wp2_with fail
    refine bodyPost_ret (results_ctt rfl _ _ g2 25 #[.slice (some ad) l0_0.length c0_0,.int .i64 a0_1] (0,0) _ rfl (blk_set (blk_set H2_1.out 0 (.slice (some ad) l0_0.length c0_0)) 1 (.int .i64 a0_1)) hu25 rfl jA) rfl ?_;exact ⟨_,rfl,Kd.V_mk hc0_0 (Kd.F_mono (Kd.F_far (p:=⟨g2,1,none⟩) (Kd.F_far (p:=⟨g2,0,none⟩) (Kd.F_below (Kd.F_bound HF0.out) HB1.out) (fun _ hk e9=>by rw [e9] at hk;exact Nat.lt_irrefl _ (Nat.lt_of_lt_of_le hk.2 GB2.out)) _) (fun _ hk e9=>by rw [e9] at hk;exact Nat.lt_irrefl _ (Nat.lt_of_lt_of_le hk.2 GB2.out)) _) (fun _ hk => .inl hk.1)),zd (zd HB1.out GB2.out) GB2.out⟩
   have h:=HH.out;rw [if_neg jB] at h;replace HH:=zh h;clear h
   go_upto_region 8 with (fail)
   go_cut [61] (fun v61 wc => ∃ b : Bool,v61 = .bool b∧Aside0 ((if b=true then some (l0_0,a0_1,0,7) else ((Fd.f k l0_0 a0_1).bind fun t=>(if pl<(t.1.length : Int)∧t.1.length≤1000000∧wrap64 (t.2+1)=t.2+1 then some (F6.out t.1 t.2 pl.toNat (rd_T60 t.1 pl).f0 (F6.row l a1_0 a1_1 im)) else none)))=some (r1,r2,r3,r4))∧Aside0 (wc.heap[g0]? = some (.cells #[.slice (some ad) l0_0.length c0_0,.int .i64 a0_1] 25 (0,0)))∧Aside0 (wc.heap[g1]? = some (.cells #[.string a1_0,.int .i64 a1_1] 28 (0,0)))∧Aside0 (wc.heap[g2]? = some (.cells #[.slice none 0 0,.int .i64 0] 25 (0,0)))∧Aside0 (Below w.heap.size w wc))
   case first =>
    have h:=HH.out;clear HH;have k0:=(zz H0_1.out 0).trans (show _=some (.slice (some ad) l0_0.length c0_0) from rfl);have k1:=(zz H0_1.out 1).trans (show _=some (.int .i64 a0_1) from rfl)
    by_cases d1 : l.length=4
    case neg =>
     rw [if_neg (fun h9=>d1 h9.1)] at h;have e1 : ((l.length : Int) == 4)=false:=zY.mpr jD;have e1n : (l.length == 4)=false:=zY.mpr d1;have H' : Aside0 ((if false=true then some (l0_0,a0_1,0,7) else ((Fd.f k l0_0 a0_1).bind fun t=>(if pl<(t.1.length : Int)∧t.1.length≤1000000∧wrap64 (t.2+1)=t.2+1 then some (F6.out t.1 t.2 pl.toNat (rd_T60 t.1 pl).f0 (F6.row l a1_0 a1_1 im)) else none)))=some (r1,r2,r3,r4)):=⟨jCL⟩;clear h d1
     go_wp2_with fail
     go_meet
     case rel=>exact ⟨false,rfl,H',H0_1,H1_1,H2_1,HB1⟩
    have e1 : ((l.length : Int) == 4)=true:=ya.mpr jD;have e1n : (l.length == 4)=true:=ya.mpr d1
    by_cases d2 : l0_0.length=60
    case pos =>
     rw [if_pos ⟨d1,.inl d2⟩] at h;have e2 : ((l0_0.length : Int) == 60)=true:=ya.mpr jD;have e2n : (l0_0.length == 60)=true:=ya.mpr d2;have H' : Aside0 ((if true=true then some (l0_0,a0_1,0,7) else ((Fd.f k l0_0 a0_1).bind fun t=>(if pl<(t.1.length : Int)∧t.1.length≤1000000∧wrap64 (t.2+1)=t.2+1 then some (F6.out t.1 t.2 pl.toNat (rd_T60 t.1 pl).f0 (F6.row l a1_0 a1_1 im)) else none)))=some (r1,r2,r3,r4)):=⟨by rw [if_pos rfl];exact h⟩;clear h d1 d2
     go_wp2_with fail
     go_meet
     case rel=>exact ⟨true,rfl,H',H0_1,H1_1,H2_1,HB1⟩
    have e2 : ((l0_0.length : Int) == 60)=false:=zY.mpr jD;have e2n : (l0_0.length == 60)=false:=zY.mpr d2
    by_cases d3 : a0_1=100000
    case pos =>
     rw [if_pos ⟨d1,.inr d3⟩] at h;have e3 : (a0_1 == 100000)=true:=ya.mpr d3;have H' : Aside0 ((if true=true then some (l0_0,a0_1,0,7) else ((Fd.f k l0_0 a0_1).bind fun t=>(if pl<(t.1.length : Int)∧t.1.length≤1000000∧wrap64 (t.2+1)=t.2+1 then some (F6.out t.1 t.2 pl.toNat (rd_T60 t.1 pl).f0 (F6.row l a1_0 a1_1 im)) else none)))=some (r1,r2,r3,r4)):=⟨by rw [if_pos rfl];exact h⟩;clear h d1 d2 d3
     go_wp2_with fail
     go_meet
     case rel=>exact ⟨true,rfl,H',H0_1,H1_1,H2_1,HB1⟩
    have e3 : (a0_1 == 100000)=false:=zY.mpr d3;rw [if_neg (fun h9=>h9.2.elim d2 d3)] at h;have H' : Aside0 ((if false=true then some (l0_0,a0_1,0,7) else ((Fd.f k l0_0 a0_1).bind fun t=>(if pl<(t.1.length : Int)∧t.1.length≤1000000∧wrap64 (t.2+1)=t.2+1 then some (F6.out t.1 t.2 pl.toNat (rd_T60 t.1 pl).f0 (F6.row l a1_0 a1_1 im)) else none)))=some (r1,r2,r3,r4)):=⟨jCL⟩;clear h d1 d2 d3
    go_wp2_with fail
    go_meet
    case rel=>exact ⟨false,rfl,H',H0_1,H1_1,H2_1,HB1⟩
   case rest =>
    clear HH H0_1 H1_1 H2_1 HB1;obtain ⟨b8,rfl,HH,H0_3,H1_3,H2_3,HB3⟩:=hcut
    cases b8
    case true =>
     have h:=HH.out;rw [if_pos rfl] at h;simp only [Option.some.injEq,Prod.mk.injEq] at h;clear HH;obtain ⟨rfl,rfl,rfl,rfl⟩:=h;have k0:=zz H0_3.out 0;have k1:=zz H0_3.out 1;have k2:=zz H2_3.out 0;have k3:=zz H2_3.out 1;have f0:=zA H2_3.out 0;have f1:=zA H2_3.out 1
     go_wp2_with fail
     refine bodyPost_ret (results_ctt rfl _ _ g2 25 #[.slice (some ad) l0_0.length c0_0,.int .i64 a0_1] (0,0) _ rfl (blk_set (blk_set H2_3.out 0 (.slice (some ad) l0_0.length c0_0)) 1 (.int .i64 a0_1)) hu25 rfl jA) rfl ?_;exact ⟨_,rfl,Kd.V_mk hc0_0 (Kd.F_mono (Kd.F_far (p:=⟨g2,1,none⟩) (Kd.F_far (p:=⟨g2,0,none⟩) (Kd.F_below (Kd.F_bound HF0.out) HB3.out) (fun _ hk e9=>by rw [e9] at hk;exact Nat.lt_irrefl _ (Nat.lt_of_lt_of_le hk.2 GB2.out)) _) (fun _ hk e9=>by rw [e9] at hk;exact Nat.lt_irrefl _ (Nat.lt_of_lt_of_le hk.2 GB2.out)) _) (fun _ hk => .inl hk.1)),zd (zd HB3.out GB2.out) GB2.out⟩
    have h:=HH.out;rw [if_neg jB] at h;clear HH;obtain ⟨w3,rfl⟩ : ∃ w3,w3=wc:=⟨_,rfl⟩;obtain ⟨⟨T1,n1⟩,hT,h⟩:=zT.mp h;simp only at h
    by_cases hTb : pl<(T1.length : Int)∧T1.length≤1000000∧wrap64 (n1+1)=n1+1
    case neg=>rw [if_neg hTb] at h;cases h
    rw [if_pos hTb] at h;obtain ⟨hT1,hT2,hT3⟩:=hTb;have HO:=zh (zU h);have HT3 : Aside0 (IntKind.i64.wrap (n1+1)=n1+1):=⟨(zG _).trans hT3⟩;clear h hT3;have k0:=(zz H0_3.out 0).trans (show _=some (.slice (some ad) l0_0.length c0_0) from rfl);have k1:=(zz H0_3.out 1).trans (show _=some (.int .i64 a0_1) from rfl);have f0:=zA H0_3.out 0;have f1:=zA H0_3.out 1
    go_wp2_with fail
    go_at_call 37
    refine (Fd.calls k (some ad) c0_0 l0_0 a0_1 T1 n1 w3 (Kd.F_now (Kd.F_below HF0.out HB3.out)) hc0_0 hT).mono ?_;rintro e w4 ⟨v4,rfl,hS4,hb_⟩;have HB4:=zh (zC HB3.out hb_);have H0_4:=zh (zD H0_3.out hb_);have H1_4:=zh (zD H1_3.out hb_);have H2_4:=zh (zD H2_3.out hb_);have L0 : Aside0 (g0<w3.heap.size):=⟨yi H0_3.out⟩;have L1 : Aside0 (g1<w3.heap.size):=⟨yi H1_3.out⟩;have L2 : Aside0 (g2<w3.heap.size):=⟨yi H2_3.out⟩;obtain ⟨g,cg,rfl,gb,gl,cg_,hg_⟩:=Kd.S_form hS4 jD;have HN4:=zh (Kd.N_mono (Kd.S_N (Kd.S_lower (Kd.S_bound hS4) HB3.out.size)) (ok':=fun k_=>w3.heap.size≤k_) (fun _ hk=>hk.2.1));have GG:=zh gb;clear k0 k1 f0 f1 hS4 hb_ hT HB3 H0_3 H1_3 H2_3 hg_;have k0:=zz H0_4.out 0;have k1:=zz H0_4.out 1;have f0:=zA H0_4.out 0;have f1:=zA H0_4.out 1
    go_wp2_with fail
    have HB5 : Aside0 (Below w.heap.size w ((w4.setCell ⟨g0,0,none⟩ (.slice (some ⟨g,0,none⟩) T1.length cg)).setCell ⟨g0,1,none⟩ (.int .i64 n1))):=⟨zd (zd HB4.out GB0.out) GB0.out⟩;have H0_5 : Aside0 (((w4.setCell ⟨g0,0,none⟩ (.slice (some ⟨g,0,none⟩) T1.length cg)).setCell ⟨g0,1,none⟩ (.int .i64 n1)).heap[g0]? = some (.cells #[.slice (some ⟨g,0,none⟩) T1.length cg,.int .i64 n1] 25 (0,0))):=⟨blk_set (blk_set H0_4.out 0 _) 1 _⟩;have H1_5 : Aside0 (((w4.setCell ⟨g0,0,none⟩ (.slice (some ⟨g,0,none⟩) T1.length cg)).setCell ⟨g0,1,none⟩ (.int .i64 n1)).heap[g1]? = some (.cells #[.string a1_0,.int .i64 a1_1] 28 (0,0))):=⟨(Below.heap_setCell _ ⟨g0,1,none⟩ _ g1 N10.out).trans ((Below.heap_setCell _ ⟨g0,0,none⟩ _ g1 N10.out).trans H1_4.out)⟩;have H2_5 : Aside0 (((w4.setCell ⟨g0,0,none⟩ (.slice (some ⟨g,0,none⟩) T1.length cg)).setCell ⟨g0,1,none⟩ (.int .i64 n1)).heap[g2]? = some (.cells #[.slice none 0 0,.int .i64 0] 25 (0,0))):=⟨(Below.heap_setCell _ ⟨g0,1,none⟩ _ g2 (Ne.symm N02.out)).trans ((Below.heap_setCell _ ⟨g0,0,none⟩ _ g2 (Ne.symm N02.out)).trans H2_4.out)⟩;have HN5 : Aside0 (Kd.N k60 60 ((w4.setCell ⟨g0,0,none⟩ (.slice (some ⟨g,0,none⟩) T1.length cg)).setCell ⟨g0,1,none⟩ (.int .i64 n1)) w.heap.size (fun k_=>w3.heap.size≤k_) (.slice (some ⟨g,0,none⟩) T1.length cg) T1):=⟨Kd.N_far (p:=⟨g0,1,none⟩) (Kd.N_far (p:=⟨g0,0,none⟩) HN4.out (fun _ hk e9=>by rw [e9] at hk;exact Nat.lt_irrefl _ (Nat.lt_of_lt_of_le L0.out hk)) _) (fun _ hk e9=>by rw [e9] at hk;exact Nat.lt_irrefl _ (Nat.lt_of_lt_of_le L0.out hk)) _⟩;have L35 : Aside0 (w3.heap.size≤((w4.setCell ⟨g0,0,none⟩ (.slice (some ⟨g,0,none⟩) T1.length cg)).setCell ⟨g0,1,none⟩ (.int .i64 n1)).heap.size):=⟨by simp;exact Nat.le_trans gb (Nat.le_of_lt gl)⟩;have GL5 : Aside0 (g<((w4.setCell ⟨g0,0,none⟩ (.slice (some ⟨g,0,none⟩) T1.length cg)).setCell ⟨g0,1,none⟩ (.int .i64 n1)).heap.size):=⟨by simpa using gl⟩;clear k0 k1 f0 f1 HB4 H0_4 H1_4 H2_4 HN4 gb gl;generalize ((w4.setCell ⟨g0,0,none⟩ (.slice (some ⟨g,0,none⟩) T1.length cg)).setCell ⟨g0,1,none⟩ (.int .i64 n1))=w5 at *;have hgw : w.heap.size≤g:=Nat.le_trans GB0.out (Nat.le_trans (Nat.le_of_lt L0.out) GG.out);have g0g : g0≠g:=fun e9=>Nat.lt_irrefl _ (Nat.lt_of_lt_of_le L0.out (e9 ▸ GG.out));have g1g : g1≠g:=fun e9=>Nat.lt_irrefl _ (Nat.lt_of_lt_of_le L1.out (e9 ▸ GG.out));have g2g : g2≠g:=fun e9=>Nat.lt_irrefl _ (Nat.lt_of_lt_of_le L2.out (e9 ▸ GG.out));have HGW:=zh hgw;have G0G:=zh g0g;have G1G:=zh g1g;have G2G:=zh g2g;clear hgw g0g g1g g2g;have hTp1:=eq_true hT1;have hKp0:=eq_true hK0;have HT1:=zh hT1;have HT2:=zh hT2;clear hT1 hT2
    go_wp2_with fail
    have hi4 : (0 : Int)≤(im : Int):=Int.natCast_nonneg im;have hi5 : (im : Int)≤(l.length : Int):=Int.ofNat_le.2 HIL.out;obtain ⟨i0_,hi0_,_,hsz_,_⟩:=info_parts info28;have hcut1:=cut_to (P:=Try.prog) 33 28 .i64 Try.underlying33 hi0_ Al l.length cl (im : Int) hi4 hi5 HLC.out;have hcut2:=cut_from (P:=Try.prog) 33 28 .i64 Try.underlying33 hi0_ 2 hsz_ Al l.length cl (im : Int) hi4 hi5;rw [Int.toNat_natCast] at hcut1 hcut2;have hC1:=Kd.F_imp HFl.out (fun _ hC=>Kd.C_take (m:=im) hC HIL.out);have hC2:=Kd.F_imp HFl.out (fun _ hC=>Kd.C_drop (c:=cl) (m:=im) hC HIL.out HLC.out);rw [zx,Nat.min_eq_left HIL.out] at hC1;rw [zw] at hC2;obtain ⟨A2,hA2⟩ : ∃ A2,A2=(if cl=im then Al else Al.map (·.add (im*2))):=⟨_,rfl⟩;rw [← hA2] at hcut2;replace hC2 : Kd.F k28 w (fun k_=>P0_0_ k_) A2 (l.length - im) (l.drop im):=by rw [hA2];exact hC2
    have HC1:=zh hC1;have HC2:=zh hC2;clear hC1 hC2 hA2 hi0_ hsz_;have HB7:=zh (zc HB5.out);have H0_7:=zh (zf H0_5.out);have H1_7:=zh (zf H1_5.out);have H2_7:=zh (zf H2_5.out);have HN7:=zh (Kd.N_drew HN5.out);have L37 : Aside0 (w3.heap.size≤w5.drew.heap.size):=L35;have GL7 : Aside0 (g<w5.drew.heap.size):=GL5;refine start_ (n:=13) (S:=fun w' => w'.cell? ⟨g1,0,none⟩=some (.string a1_0)∧w'.cell? ⟨g1,1,none⟩=some (.int .i64 a1_1)) (ds:=[]) (bm_ 0 13) jA rfl rfl ⟨(zz H1_7.out 0).trans rfl,(zz H1_7.out 1).trans rfl⟩ (fun hHeld=>?_);generalize w5.drew=w7 at HB7 H0_7 H1_7 H2_7 HN7 L37 GL7 hHeld ⊢;clear HB5 H0_5 H1_5 H2_5 HN5 L35 GL5;refine pure_ (i:=1) (N:=some 66) (v:=?_) (a':=?_) #[false,true,false,false,false,false,false,false,false,false,false,false,false] rfl rfl jA (fun _ _ _ h=>h) (Or.inl ⟨by rfl,?_⟩) ?_ ?_;rotate_left;exact jb;rotate_left;exact jc
    refine pure_ (i:=2) (N:=some 67) (v:=?_) (a':=?_) #[false,true,true,false,false,false,false,false,false,false,false,false,false] rfl rfl jA (fun _ _ _ h=>h) (Or.inl ⟨by rfl,?_⟩) ?_ ?_;rotate_left;exact jb;rotate_left;exact jc
    refine pure_ (i:=3) (N:=some 68) (v:=?_) (a':=?_) #[false,true,true,true,false,false,false,false,false,false,false,false,false] rfl rfl jA (fun _ _ _ h=>h) (Or.inl ⟨by rfl,?_⟩) ?_ ?_;rotate_left;exact jb;rotate_left;exact jc
    refine pure_ (i:=8) (N:=some 73) (v:=?_) (a':=?_) #[false,true,true,true,false,false,false,false,true,false,false,false,false] rfl rfl jA (fun _ _ _ h=>h) (Or.inl ⟨by rfl,?_⟩) ?_ ?_;rotate_left;exact jb;rotate_left;exact jc
    refine pure_ (i:=9) (N:=some 74) (v:=?_) (a':=?_) #[false,true,true,true,false,false,false,false,true,true,false,false,false] rfl rfl jA (fun _ _ _ h=>h) (Or.inl ⟨by rfl,?_⟩) ?_ ?_;rotate_left;exact jb;rotate_left;exact jc
    refine pure_ (i:=10) (N:=some 75) (v:=?_) (a':=?_) #[false,true,true,true,false,false,false,false,true,true,true,false,false] rfl rfl jA (fun _ _ _ h=>h) (Or.inl ⟨by rfl,?_⟩) ?_ ?_;rotate_left;exact jb;rotate_left;exact jc
    refine take_ (i:=5) (N:=some 70) (v:=?_) (a':=?_) #[false,true,true,true,false,true,false,false,true,true,true,false,false] rfl rfl jA (fun _ _ _ h=>h) (Or.inl ⟨by rfl,?_⟩) hHeld ?_ ?_;rotate_left
    ·
     rintro w' ⟨s0,s1⟩
     go_simp
     with_reducible rfl
    rotate_left
    exact jc
    refine join_ (σ:=Value×Value×(Option Addr×Nat)) 3 #[true,true,true,true,true,true,true,false,true,true,true,false,false] (fun s => [(65,s.1),(69,s.2.1),(71,.slice s.2.2.1 1 s.2.2.2)]) (fun s w' => Kd.R k28 28 w' w7.heap.size (fun _=>True) s.2.1 ([]++l.take im)∧Kd.C k28 w' s.2.2.1 1 [(⟨a1_0,a1_1⟩ : S28)]∧Below w7.heap.size w7 w') ?_ ?_;rotate_left
    ·
     intro hCont
     refine two_ (i:=0) (j:=6) (Ni:=some 65) (Nj:=some 71) #[true,true,true,true,false,true,false,false,true,true,true,false,false] #[false,true,true,true,false,true,true,false,true,true,true,false,false] rfl rfl rfl rfl jA jB jB (fun K hK=>?_) (fun K hK=>?_)
     ·
      skip
      refine Kd.R_lit_step k28 _ 28 ?hg (N:=65) ?hd (xs:=([] : List (S28))) (inner:=[]) (ok:=fun _=>True) (okp:=fun _=>True) ?hr ?hp (fun _ hk=>hk) trivial (Below.refl _ _) (ye _) (by simp) ?_;(case hd=>rfl);(case hg=>rfl);(case hr=>go_simp <;> rfl);(case hp=>exact (Reps.none _ _));intro va wa hRa hba_ hga_ hna_;clear hga_ hna_;have hb0:=zC (Below.refl w7.heap.size w7) hba_;refine hK.out _ _ ⟨(zz (zD H1_7.out hb0) 0).trans rfl,(zz (zD H1_7.out hb0) 1).trans rfl⟩ (fun hHeld=>?_);clear hK K;refine norm_ (a':=?_) ?_ ?_;rotate_left
      ·
       show Act.put _ (some 65) _=_
       simp only [Act.put,zi,zj,zk,zG,zH]
       rfl
      refine two_ (i:=4) (j:=6) (Ni:=some 69) (Nj:=some 71) #[true,true,true,true,true,true,false,false,true,true,true,false,false] #[true,true,true,true,false,true,true,false,true,true,true,false,false] rfl rfl rfl rfl jA jB jB (fun K hK=>?_) (fun K hK=>?_)
      ·
       skip
       refine Kd.R_append_rows_step k28 (w0:=w7) w7.heap.size (by rfl) (.tmp 65) (.tmp 68) 33 28 (.agg #[(.string ⟨#[]⟩),(.int .i64 0)]) 24 rfl Try.underlying33 info28 rfl jB jB va ([] : List (S28)) (l.take im) Al im cl (fun _=>True) (fun _=>False) (by rfl) (by rfl) (yx hRa (ye _)) (Kd.F_now (Kd.F_below HC1.out (zC HB7.out hb0))) (fun x cs h9=>F6.K_M x cs h9) (fun _ h9=>h9.elim) (fun _ _=>trivial) hb0 hb0.size jBO ?_;intro vb wb hRb hb4 hg4 hat4;refine hK.out _ _ ⟨(zz (zD H1_7.out hb4) 0).trans rfl,(zz (zD H1_7.out hb4) 1).trans rfl⟩ (fun hHeld=>?_);clear hK K;refine norm_ (a':=?_) ?_ ?_;rotate_left
       ·
        show Act.put _ (some 69) _=_
        simp only [Act.put,zi,zj,zk,zG,zH]
        rfl
       refine one_ (i:=6) (N:=some 71) #[true,true,true,true,true,true,true,false,true,true,true,false,false] rfl rfl jA jB (fun K hK=>?_);refine Kd.R_lit_step k28 _ 28 ?hg (N:=71) ?hd (xs:=[(⟨a1_0,a1_1⟩ : S28)]) (inner:=[.string a1_0,.int .i64 a1_1]) (ok:=fun _=>True) (okp:=fun _=>True) ?hr ?hp (fun _ hk=>hk) trivial (Below.refl _ _) (ye _) (by simp) ?_;(case hd=>rfl);(case hg=>rfl);(case hr=>go_simp <;> rfl);(case hp=>exact (Go.Proofs.Ytgifonogfgpjdaa.Row.reps_one (k28_mkM _ _ _ (⟨a1_0,a1_1⟩ : S28)) rfl));intro vl wl hRl hbl_ hga_ hna_;clear hga_ hna_;obtain ⟨Ax,cx,hvl⟩:=yk hRl;replace hvl : vl = .slice Ax 1 cx:=hvl;subst hvl;have hb6:=zC hb4 hbl_;refine hK.out _ _ ⟨(zz (zD H1_7.out hb6) 0).trans rfl,(zz (zD H1_7.out hb6) 1).trans rfl⟩ (fun hHeld=>?_);clear hK K;refine norm_ (a':=?_) ?_ ?_;rotate_left
       ·
        show Act.put _ (some 71) _=_
        simp only [Act.put,zi,zj,zk,zG,zH]
        rfl
       exact norm_ jt (hCont (va,vb,(Ax,cx)) _ ⟨yg hRb hbl_,(yh hRl).2.2,hb6⟩)
      skip
      refine Kd.R_lit_step k28 _ 28 ?hg (N:=71) ?hd (xs:=[(⟨a1_0,a1_1⟩ : S28)]) (inner:=[.string a1_0,.int .i64 a1_1]) (ok:=fun _=>True) (okp:=fun _=>True) ?hr ?hp (fun _ hk=>hk) trivial (Below.refl _ _) (ye _) (by simp) ?_;(case hd=>rfl);(case hg=>rfl);(case hr=>go_simp <;> rfl);(case hp=>exact (Go.Proofs.Ytgifonogfgpjdaa.Row.reps_one (k28_mkM _ _ _ (⟨a1_0,a1_1⟩ : S28)) rfl));intro vl wl hRl hbl_ hga_ hna_;clear hga_ hna_;obtain ⟨Ax,cx,hvl⟩:=yk hRl;replace hvl : vl = .slice Ax 1 cx:=hvl;subst hvl;have hb6:=zC hb0 hbl_;refine hK.out _ _ ⟨(zz (zD H1_7.out hb6) 0).trans rfl,(zz (zD H1_7.out hb6) 1).trans rfl⟩ (fun hHeld=>?_);clear hK K;refine norm_ (a':=?_) ?_ ?_;rotate_left
      ·
       show Act.put _ (some 71) _=_
       simp only [Act.put,zi,zj,zk,zG,zH]
       rfl
      refine one_ (i:=4) (N:=some 69) #[true,true,true,true,true,true,true,false,true,true,true,false,false] rfl rfl jA jB (fun K hK=>?_);refine Kd.R_append_rows_step k28 (w0:=w7) w7.heap.size (by rfl) (.tmp 65) (.tmp 68) 33 28 (.agg #[(.string ⟨#[]⟩),(.int .i64 0)]) 24 rfl Try.underlying33 info28 rfl jB jB va ([] : List (S28)) (l.take im) Al im cl (fun _=>True) (fun _=>False) (by rfl) (by rfl) (yg (yx hRa (ye _)) hbl_) (Kd.F_now (Kd.F_below HC1.out (zC HB7.out hb6))) (fun x cs h9=>F6.K_M x cs h9) (fun _ h9=>h9.elim) (fun _ _=>trivial) hb6 hb6.size jBO ?_;intro vb wb hRb hb4 hg4 hat4;refine hK.out _ _ ⟨(zz (zD H1_7.out hb4) 0).trans rfl,(zz (zD H1_7.out hb4) 1).trans rfl⟩ (fun hHeld=>?_);clear hK K;refine norm_ (a':=?_) ?_ ?_;rotate_left
      ·
       show Act.put _ (some 69) _=_
       simp only [Act.put,zi,zj,zk,zG,zH]
       rfl
      exact norm_ jt (hCont (va,vb,(Ax,cx)) _ ⟨hRb,(yh (Kd.R_grown (Kd.R_bound hRl) hg4 (fun k_ hk he=>Nat.lt_irrefl _ (Nat.lt_of_lt_of_le (Kd.R_lt hRa k_ he.symm) hk.2.1)))).2.2,hb4⟩)
     skip
     refine Kd.R_lit_step k28 _ 28 ?hg (N:=71) ?hd (xs:=[(⟨a1_0,a1_1⟩ : S28)]) (inner:=[.string a1_0,.int .i64 a1_1]) (ok:=fun _=>True) (okp:=fun _=>True) ?hr ?hp (fun _ hk=>hk) trivial (Below.refl _ _) (ye _) (by simp) ?_;(case hd=>rfl);(case hg=>rfl);(case hr=>go_simp <;> rfl);(case hp=>exact (Go.Proofs.Ytgifonogfgpjdaa.Row.reps_one (k28_mkM _ _ _ (⟨a1_0,a1_1⟩ : S28)) rfl));intro vl wl hRl hbl_ hga_ hna_;clear hga_ hna_;obtain ⟨Ax,cx,hvl⟩:=yk hRl;replace hvl : vl = .slice Ax 1 cx:=hvl;subst hvl;have hb6:=zC (Below.refl w7.heap.size w7) hbl_;refine hK.out _ _ ⟨(zz (zD H1_7.out hb6) 0).trans rfl,(zz (zD H1_7.out hb6) 1).trans rfl⟩ (fun hHeld=>?_);clear hK K;refine norm_ (a':=?_) ?_ ?_;rotate_left
     ·
      show Act.put _ (some 71) _=_
      simp only [Act.put,zi,zj,zk,zG,zH]
      rfl
     refine one_ (i:=0) (N:=some 65) #[true,true,true,true,false,true,true,false,true,true,true,false,false] rfl rfl jA jB (fun K hK=>?_);refine Kd.R_lit_step k28 _ 28 ?hg (N:=65) ?hd (xs:=([] : List (S28))) (inner:=[]) (ok:=fun _=>True) (okp:=fun _=>True) ?hr ?hp (fun _ hk=>hk) trivial (Below.refl _ _) (ye _) (by simp) ?_;(case hd=>rfl);(case hg=>rfl);(case hr=>go_simp <;> rfl);(case hp=>exact (Reps.none _ _));intro va wa hRa hba_ hga_ hna_;clear hga_ hna_;have hb0:=zC hb6 hba_;refine hK.out _ _ ⟨(zz (zD H1_7.out hb0) 0).trans rfl,(zz (zD H1_7.out hb0) 1).trans rfl⟩ (fun hHeld=>?_);clear hK K;refine norm_ (a':=?_) ?_ ?_;rotate_left
     ·
      show Act.put _ (some 65) _=_
      simp only [Act.put,zi,zj,zk,zG,zH]
      rfl
     refine one_ (i:=4) (N:=some 69) #[true,true,true,true,true,true,true,false,true,true,true,false,false] rfl rfl jA jB (fun K hK=>?_);refine Kd.R_append_rows_step k28 (w0:=w7) w7.heap.size (by rfl) (.tmp 65) (.tmp 68) 33 28 (.agg #[(.string ⟨#[]⟩),(.int .i64 0)]) 24 rfl Try.underlying33 info28 rfl jB jB va ([] : List (S28)) (l.take im) Al im cl (fun _=>True) (fun _=>False) (by rfl) (by rfl) (yx hRa hb6.size) (Kd.F_now (Kd.F_below HC1.out (zC HB7.out hb0))) (fun x cs h9=>F6.K_M x cs h9) (fun _ h9=>h9.elim) (fun _ _=>trivial) hb0 hb0.size jBO ?_;intro vb wb hRb hb4 hg4 hat4;refine hK.out _ _ ⟨(zz (zD H1_7.out hb4) 0).trans rfl,(zz (zD H1_7.out hb4) 1).trans rfl⟩ (fun hHeld=>?_);clear hK K;refine norm_ (a':=?_) ?_ ?_;rotate_left
     ·
      show Act.put _ (some 69) _=_
      simp only [Act.put,zi,zj,zk,zG,zH]
      rfl
     exact norm_ jt (hCont (va,vb,(Ax,cx)) _ ⟨hRb,(yh (Kd.R_grown (yg (Kd.R_bound hRl) hba_) hg4 (fun k_ hk he=>Nat.lt_irrefl _ (Nat.lt_of_lt_of_le hk.2.2.1 (Kd.R_base hRa k_ he.symm))))).2.2,hb4⟩)
    rintro ⟨va,vb,Ax,cx⟩ wt ⟨hRb,hCl,hbt⟩;have hHeld : wt.cell? ⟨g1,0,none⟩=some (.string a1_0)∧wt.cell? ⟨g1,1,none⟩=some (.int .i64 a1_1):=⟨(zz (zD H1_7.out hbt) 0).trans rfl,(zz (zD H1_7.out hbt) 1).trans rfl⟩;refine norm_ (a':=?_) ?_ ?_;rotate_left
    ·
     simp only [putAll,Act.put,zi,zj,zk]
     rfl
    refine one_ (i:=7) (N:=some 72) (bm_ 11 13) rfl rfl jA jB (fun K hK=>?_);refine Kd.R_append_rows_step k28 (w0:=w7) w7.heap.size (by rfl) (.tmp 69) (.tmp 71) 33 28 (.agg #[(.string ⟨#[]⟩),(.int .i64 0)]) 24 rfl Try.underlying33 info28 rfl jB jB vb ([]++l.take im) [(⟨a1_0,a1_1⟩ : S28)] Ax 1 cx (fun _=>True) (fun _=>False) (by rfl) (by rfl) hRb hCl (fun x cs h9=>F6.K_M x cs h9) (fun _ h9=>h9.elim) (fun _ _=>trivial) hbt hbt.size jBO ?_;intro vd wd hRd hbd hg_ hat_;clear hg_ hat_;refine hK.out _ _ ⟨(zz (zD H1_7.out hbd) 0).trans rfl,(zz (zD H1_7.out hbd) 1).trans rfl⟩ (fun hHeld=>?_);clear hK K;refine norm_ (a':=?_) ?_ ?_;rotate_left
    ·
     show Act.put _ (some 72) _=_
     simp only [Act.put,zi,zj,zk,zG,zH]
     rfl
    refine one_ (i:=11) (N:=some 76) (bm_ 12 13) rfl rfl jA jB (fun K hK=>?_);refine Kd.R_append_rows_step k28 (w0:=w7) w7.heap.size (by rfl) (.tmp 72) (.tmp 75) 33 28 (.agg #[(.string ⟨#[]⟩),(.int .i64 0)]) 24 rfl Try.underlying33 info28 rfl jB jB vd (([]++l.take im) ++ [(⟨a1_0,a1_1⟩ : S28)]) (l.drop im) A2 (l.length - im) (cl - im) (fun _=>True) (fun _=>False) (by rfl) (by rfl) hRd (Kd.F_now (Kd.F_below HC2.out (zC HB7.out hbd))) (fun x cs h9=>F6.K_M x cs h9) (fun _ h9=>h9.elim) (fun _ _=>trivial) hbd hbd.size jBO ?_;intro ve we hRe hbe hg_ hat_;clear hg_ hat_;obtain ⟨X,hX⟩ : ∃ X : List (S28),X=(([]++l.take im) ++ [(⟨a1_0,a1_1⟩ : S28)])++l.drop im:=⟨_,rfl⟩;rw [← hX] at hRe;have HX:=zh hX;clear hX;obtain ⟨Ac,cc,rfl⟩:=yk hRe;refine hK.out _ _ ⟨(zz (zD H1_7.out hbe) 0).trans rfl,(zz (zD H1_7.out hbe) 1).trans rfl⟩ (fun hHeld=>?_);clear hK K;refine norm_ (a':=?_) ?_ ?_;rotate_left
    ·
     show Act.put _ (some 76) _=_
     simp only [Act.put,zi,zj,zk,zG,zH]
     rfl
    refine pure_ (i:=12) (N:=some 8) (v:=?_) (a':=?_) (bm_ 13 13) rfl rfl jA (fun _ _ _ h=>h) (Or.inl ⟨by rfl,?_⟩) ?_ ?_;rotate_left;exact jb;rotate_left;exact jc
    refine done_ jA ?_;have hFe : Kd.F k28 we (fun k_=>w7.heap.size≤k_) Ac X.length X:=Kd.F_mono (Kd.R_F (Kd.R_bound hRe)) (fun _ hk=>hk.2.1);have hXc : X.length≤cc:=(yh hRe).2.1;obtain ⟨ce,hcl_,hFK_,hcc_,hfr_⟩:=Kd.N_elem (Kd.N_below HN7.out hbe) z60 pl hK0 HT1.out;obtain ⟨A9,c9,rfl,-,-⟩:=k60_openF hFK_;have q9 : we.cell? ⟨g,pl.toNat*2+1,none⟩=some (.slice A9 (rd_T60 T1 pl).f1.length c9):=hcc_ 1 _ rfl;have f9 : we.frozen? ⟨g,pl.toNat*2+1,none⟩=false:=hfr_ 1;have k0:=(zz (zD H0_7.out hbe) 0).trans (show _=some (.slice (some ⟨g,0,none⟩) T1.length cg) from rfl)
    obtain ⟨hN8,hG8⟩ : Kd.N k60 60 (we.setCell ⟨g,pl.toNat*2+1,none⟩ (.slice Ac X.length cc)) w.heap.size (fun k_=>w3.heap.size≤k_) (.slice (some ⟨g,0,none⟩) T1.length cg) (T1.set pl.toNat (⟨(rd_T60 T1 pl).f0,X⟩ : S60))∧we.grownBy (we.setCell ⟨g,pl.toNat*2+1,none⟩ (.slice Ac X.length cc)) (some g) :=
     Kd.N_seg (Kd.N_below HN7.out hbe) pl hK0 HT1.out (c:=[.int .i64 (rd_T60 T1 pl).f0,.slice A9 (rd_T60 T1 pl).f1.length c9]) (seg:=[.slice Ac X.length cc]) (j:=1) rfl hcc_ (show 1+1≤2 from by decide) (x':=(⟨(rd_T60 T1 pl).f0,X⟩ : S60)) (okp:=fun k_=>w7.heap.size≤k_) (k60_mkF we _ (⟨(rd_T60 T1 pl).f0,X⟩ : S60) hXc hFe) (fun k_ hk=>⟨Nat.le_trans L37.out hk,fun e9=>by rw [e9] at hk;exact Nat.lt_irrefl _ (Nat.lt_of_lt_of_le GL7.out hk)⟩)
    have HN8:=zh hN8;have HXC:=zh hXc;have HFX : Aside0 (Kd.F k28 (we.setCell ⟨g,pl.toNat*2+1,none⟩ (.slice Ac X.length cc)) (fun k_=>w7.heap.size≤k_) Ac X.length X):=⟨Kd.F_far (p:=⟨g,_,none⟩) hFe (fun k_ hk e9=>by rw [e9] at hk;exact Nat.lt_irrefl _ (Nat.lt_of_lt_of_le GL7.out hk)) _⟩;have HB8 : Aside0 (Below w.heap.size w (we.setCell ⟨g,pl.toNat*2+1,none⟩ (.slice Ac X.length cc))):=⟨zd (zC HB7.out hbe) HGW.out⟩;have H0_8 : Aside0 ((we.setCell ⟨g,pl.toNat*2+1,none⟩ (.slice Ac X.length cc)).heap[g0]? = some (.cells #[.slice (some ⟨g,0,none⟩) T1.length cg,.int .i64 n1] 25 (0,0))):=⟨(Below.heap_setCell _ ⟨g,_,none⟩ _ g0 G0G.out).trans (zD H0_7.out hbe)⟩;have H2_8 : Aside0 ((we.setCell ⟨g,pl.toNat*2+1,none⟩ (.slice Ac X.length cc)).heap[g2]? = some (.cells #[.slice none 0 0,.int .i64 0] 25 (0,0))):=⟨(Below.heap_setCell _ ⟨g,_,none⟩ _ g2 G2G.out).trans (zD H2_7.out hbe)⟩;have L78 : Aside0 (w7.heap.size≤(we.setCell ⟨g,pl.toNat*2+1,none⟩ (.slice Ac X.length cc)).heap.size):=⟨by simp;exact hbe.size⟩
    go_upto_region 13 with (fail)
    clear hcut1 hcut2 hN8 hG8 hFe hXc hRb hRd hRe hbt hbd hbe hCl hcl_ hFK_ hcc_ hfr_ q9 f9 k0 HB7 H0_7 H1_7 H2_7 HN7;generalize (we.setCell ⟨g,pl.toNat*2+1,none⟩ (.slice Ac X.length cc))=w8 at *;have hO:=HO.out;have hXe : F6.row l a1_0 a1_1 im=X:=by rw [HX.out];rfl
    rw [hXe] at hO;unfold F6.out at hO;clear hXe
    by_cases hX4 : X.length≤4
    ·
     rw [if_pos hX4] at hO
     simp only [Prod.mk.injEq] at hO;obtain ⟨hY,rfl,rfl,rfl⟩:=hO;have c5 : decide ((X.length : Int)≤4)=true:=decide_eq_true jD;have c5n : decide (X.length≤4)=true:=decide_eq_true hX4;have k0:=zz H0_8.out 0;have k1:=zz H0_8.out 1;have k2:=zz H2_8.out 0;have k3:=zz H2_8.out 1;have f0:=zA H2_8.out 0;have f1:=zA H2_8.out 1;have HV8:=zh (Kd.N_V (base':=w.heap.size) HN8.out);rw [hY] at HV8;clear hY hX4
     go_wp2_with fail
     refine bodyPost_ret (results_ctt rfl _ _ g2 25 #[.slice (some ⟨g,0,none⟩) T1.length cg,.int .i64 n1] (0,0) _ rfl (blk_set (blk_set H2_8.out 0 (.slice (some ⟨g,0,none⟩) T1.length cg)) 1 (.int .i64 n1)) hu25 rfl jA) rfl ?_;exact ⟨_,rfl,Kd.V_mono (Kd.V_far (p:=⟨g2,1,none⟩) (Kd.V_far (p:=⟨g2,0,none⟩) HV8.out (fun _ hk e9=>by rw [e9] at hk;exact Nat.lt_irrefl _ (Nat.lt_of_lt_of_le L2.out hk)) _) (fun _ hk e9=>by rw [e9] at hk;exact Nat.lt_irrefl _ (Nat.lt_of_lt_of_le L2.out hk)) _) (fun _ hk => .inr (Nat.le_trans GB0.out (Nat.le_trans (Nat.le_of_lt L0.out) hk))),zd (zd HB8.out GB2.out) GB2.out⟩
    rw [if_neg hX4] at hO;simp only [Prod.mk.injEq] at hO;obtain ⟨hr1,rfl,rfl,rfl⟩:=hO;have HR1:=zh hr1;have c5 : decide ((X.length : Int)≤4)=false:=decide_eq_false jD;have c5n : decide (X.length≤4)=false:=decide_eq_false hX4;obtain ⟨hf,hhf⟩ : ∃ hf : Nat,hf=X.length / 2:=⟨_,rfl⟩;have hq1 : (X.length : Int) / 2=(hf : Int):=by rw [hhf];omega
    have hq2 : Int.tdiv (X.length : Int) 2=(hf : Int):=by rw [Int.tdiv_eq_ediv_of_nonneg (Int.natCast_nonneg _)];exact hq1
    have hfl : hf≤X.length:=by rw [hhf];exact Nat.div_le_self _ _
    have HHF:=zh hhf;have HFL:=zh hfl
    have hq3 : wrap64 (hf : Int)=(hf : Int):=by
     have h8 : X.length≤1000001:=by rw [HX.out];have:=HLM.out.2;have:=HIL.out;simp;omega
     have h9 : hf≤1000001:=Nat.le_trans hfl h8;unfold wrap64;omega
    have XL : Aside0 (X.length≤1000001):=⟨by rw [HX.out];have:=HLM.out.2;have:=HIL.out;simp;omega⟩;clear hr1 hX4 hhf hfl
    go_wp2_with fail
    (first|rw [hq3]|simp only [hq3]);clear hq1 hq2 hq3 c5 c5n;have hi4 : (0 : Int)≤(hf : Int):=Int.natCast_nonneg hf;have hi5 : (hf : Int)≤(X.length : Int):=Int.ofNat_le.2 HFL.out;obtain ⟨i0_,hi0_,_,hsz_,_⟩:=info_parts info28;have hcut1:=cut_to (P:=Try.prog) 33 28 .i64 Try.underlying33 hi0_ Ac X.length cc (hf : Int) hi4 hi5 HXC.out;have hcut2:=cut_from (P:=Try.prog) 33 28 .i64 Try.underlying33 hi0_ 2 hsz_ Ac X.length cc (hf : Int) hi4 hi5;rw [Int.toNat_natCast] at hcut1 hcut2;obtain ⟨A2,hA2⟩ : ∃ A2,A2=(if cc=hf then Ac else Ac.map (·.add (hf*2))):=⟨_,rfl⟩;rw [← hA2] at hcut2;have HA2:=zh hA2;have hC1:=Kd.F_imp HFX.out (fun _ hC=>Kd.C_take (m:=hf) hC HFL.out);rw [zx,Nat.min_eq_left HFL.out] at hC1;have HC1:=zh (Kd.F_drew hC1);have HFX9:=zh (Kd.F_drew HFX.out);have HB9:=zh (zc HB8.out);have H0_9:=zh (zf H0_8.out);have H2_9:=zh (zf H2_8.out);have HN9:=zh (Kd.N_drew HN8.out);have L79 : Aside0 (w7.heap.size≤w8.drew.heap.size):=L78;have HYL : Aside0 ((T1.set pl.toNat (⟨(rd_T60 T1 pl).f0,X⟩ : S60)).length=T1.length):=⟨by rw [List.length_set]⟩;clear hC1 hA2 hi0_ hsz_;refine start_ (n:=11) (S:=fun w' => w'.cell? ⟨g0,0,none⟩=some (.slice (some ⟨g,0,none⟩) T1.length cg)) (ds:=[10]) (bm_ 0 11) jA rfl rfl ((zz H0_9.out 0).trans rfl) (fun hHeld=>?_);generalize w8.drew=w9 at HB9 H0_9 H2_9 HN9 HC1 HFX9 L79 hHeld ⊢;clear HB8 H0_8 H2_8 HN8 HFX L78;refine pure_ (i:=0) (N:=some 90) (v:=?_) (a':=?_) (bm_ 1 11) rfl rfl jA (fun _ _ _ h=>h) (Or.inl ⟨by rfl,?_⟩) ?_ ?_;rotate_left;exact jb;rotate_left;exact jc
    refine pure_ (i:=2) (N:=some 92) (v:=?_) (a':=?_) #[true,false,true,false,false,false,false,false,false,false,false] rfl rfl jA (fun _ _ _ h=>h) (Or.inl ⟨by rfl,?_⟩) ?_ ?_;rotate_left;exact jb;rotate_left;exact jc
    refine pure_ (i:=4) (N:=some 94) (v:=?_) (a':=?_) #[true,false,true,false,true,false,false,false,false,false,false] rfl rfl jA (fun _ _ _ h=>h) (Or.inl ⟨by rfl,?_⟩) ?_ ?_;rotate_left;exact jb;rotate_left;exact jc
    refine pure_ (i:=5) (N:=some 95) (v:=?_) (a':=?_) #[true,false,true,false,true,true,false,false,false,false,false] rfl rfl jA (fun _ _ _ h=>h) (Or.inl ⟨by rfl,?_⟩) ?_ ?_;rotate_left;exact jb;rotate_left;exact jc
    refine pure_ (i:=6) (N:=some 96) (v:=?_) (a':=?_) #[true,false,true,false,true,true,true,false,false,false,false] rfl rfl jA (fun _ _ _ h=>h) (Or.inl ⟨by rfl,?_⟩) ?_ ?_;rotate_left;exact jb;rotate_left;exact jc
    refine take_ (i:=1) (N:=some 91) (v:=?_) (a':=?_) #[true,true,true,false,true,true,true,false,false,false,false] rfl rfl jA (fun _ _ _ h=>h) (Or.inl ⟨by rfl,?_⟩) hHeld ?_ ?_;rotate_left
    ·
     intro w' s0
     go_simp
     with_reducible rfl
    rotate_left
    exact jc
    refine one_ (i:=3) (N:=some 93) (bm_ 7 11) rfl rfl jA jB (fun K hK=>?_);refine Kd.R_lit_step k28 _ 28 ?hg (N:=93) ?hd (xs:=([] : List (S28))) (inner:=[]) (ok:=fun _=>True) (okp:=fun _=>True) ?hr ?hp (fun _ hk=>hk) trivial (Below.refl _ _) (ye _) (by simp) ?_;(case hd=>rfl);(case hg=>rfl);(case hr=>go_simp <;> rfl);(case hp=>exact (Reps.none _ _));intro va wa hRa hba hga_ hna_;clear hga_ hna_;refine hK.out _ _ ((zz (zD H0_9.out hba) 0).trans rfl) (fun hHeld=>?_);clear hK K;refine norm_ (a':=?_) ?_ ?_;rotate_left
    ·
     show Act.put _ (some 93) _=_
     simp only [Act.put,zi,zj,zk,zG,zH]
     rfl
    refine one_ (i:=7) (N:=some 97) (bm_ 8 11) rfl rfl jA jB (fun K hK=>?_);refine Kd.R_append_rows_step k28 (w0:=w9) w9.heap.size (by rfl) (.tmp 93) (.tmp 96) 33 28 (.agg #[(.string ⟨#[]⟩),(.int .i64 0)]) 24 rfl Try.underlying33 info28 rfl jB jB va ([] : List (S28)) (X.take hf) Ac hf cc (fun _=>True) (fun _=>False) (by rfl) (by rfl) hRa (Kd.F_now (Kd.F_below HC1.out hba)) (fun x cs h9=>F6.K_M x cs h9) (fun _ h9=>h9.elim) (fun _ _=>trivial) hba hba.size jBq ?_;intro vb wb hRb hbb hg_ hat_;clear hg_ hat_;obtain ⟨X1,hX1⟩ : ∃ X1 : List (S28),X1=[]++X.take hf:=⟨_,rfl⟩;rw [← hX1] at hRb;have HX1:=zh hX1;clear hX1;obtain ⟨Am,cm,rfl⟩:=yk hRb;obtain ⟨ce,hcl_,hFK_,hcc_,hfr_⟩:=Kd.N_elem (Kd.N_below HN9.out hbb) z60 pl hK0 HT1.out;obtain ⟨A9,c9,rfl,-,-⟩:=k60_openF hFK_;have q9 : wb.cell? ⟨g,pl.toNat*2+1,none⟩=some (.slice A9 (rd_T60 (T1.set pl.toNat (⟨(rd_T60 T1 pl).f0,X⟩ : S60)) pl).f1.length c9):=hcc_ 1 _ rfl;have f9 : wb.frozen? ⟨g,pl.toNat*2+1,none⟩=false:=hfr_ 1;refine hK.out _ _ ((zz (zD H0_9.out hbb) 0).trans rfl) (fun hHeld=>?_);clear hK K;refine norm_ (a':=?_) ?_ ?_;rotate_left
    ·
     show Act.put _ (some 97) _=_
     simp only [Act.put,zi,zj,zk,zG,zH]
     rfl
    refine pure_ (i:=8) (N:=some 98) (v:=?_) (a':=?_) (bm_ 9 11) rfl rfl jA (fun _ _ _ h=>h) (Or.inl ⟨by rfl,?_⟩) ?_ ?_;rotate_left;exact jb;rotate_left;exact jc
    refine pure_ (i:=9) (N:=some 99) (v:=?_) (a':=?_) (bm_ 10 11) rfl rfl jA (fun _ _ _ h=>h) (Or.inl ⟨by rfl,?_⟩) ?_ ?_;rotate_left;exact jb;rotate_left;exact jc
    refine last_ (i:=10) (N:=none) (bm_ 11 11) rfl rfl jA jB (fun K hK=>?_);refine skip_ (w1:=?_) (by rfl) rfl ?_ ?_;rotate_left
    ·
     go_simp
     rfl
    refine hK.out _ _ ?_;clear hK K;refine done_ jA ?_;have hFe : Kd.F k28 wb (fun k_=>w9.heap.size≤k_) Am X1.length X1:=Kd.F_mono (Kd.R_F (Kd.R_bound hRb)) (fun _ hk=>hk.2.1);have hXc : X1.length≤cm:=(yh hRb).2.1
    have erd : rd_T60 (T1.set pl.toNat (⟨(rd_T60 T1 pl).f0,X⟩ : S60)) pl=(⟨(rd_T60 T1 pl).f0,X⟩ : S60):=by
     have:=HT1.out;unfold rd_T60;rw [List.getD_eq_getElem?_getD,List.getElem?_set_self jD];rfl
    obtain ⟨hN8,hG8⟩ : Kd.N k60 60 (wb.setCell ⟨g,pl.toNat*2+1,none⟩ (.slice Am X1.length cm)) w.heap.size (fun k_=>w3.heap.size≤k_) (.slice (some ⟨g,0,none⟩) T1.length cg) ((T1.set pl.toNat (⟨(rd_T60 T1 pl).f0,X⟩ : S60)).set pl.toNat (⟨(rd_T60 T1 pl).f0,X1⟩ : S60))∧wb.grownBy (wb.setCell ⟨g,pl.toNat*2+1,none⟩ (.slice Am X1.length cm)) (some g) :=
     Kd.N_seg (Kd.N_below HN9.out hbb) pl hK0 HT1.out (c:=[.int .i64 (rd_T60 (T1.set pl.toNat (⟨(rd_T60 T1 pl).f0,X⟩ : S60)) pl).f0,.slice A9 (rd_T60 (T1.set pl.toNat (⟨(rd_T60 T1 pl).f0,X⟩ : S60)) pl).f1.length c9]) (seg:=[.slice Am X1.length cm]) (j:=1) rfl hcc_ (show 1+1≤2 from by decide) (x':=(⟨(rd_T60 T1 pl).f0,X1⟩ : S60)) (okp:=fun k_=>w9.heap.size≤k_) (by rw [erd];exact k60_mkF wb _ (⟨(rd_T60 T1 pl).f0,X1⟩ : S60) hXc hFe) (fun k_ hk=>⟨Nat.le_trans L37.out (Nat.le_trans L79.out hk),fun e9=>by rw [e9] at hk;exact Nat.lt_irrefl _ (Nat.lt_of_lt_of_le GL7.out (Nat.le_trans L79.out hk))⟩)
    have HN10:=zh hN8;have HFX10 : Aside0 (Kd.F k28 (wb.setCell ⟨g,pl.toNat*2+1,none⟩ (.slice Am X1.length cm)) (fun k_=>w7.heap.size≤k_) Ac X.length X):=⟨Kd.F_far (p:=⟨g,_,none⟩) (Kd.F_below HFX9.out hbb) (fun k_ hk e9=>by rw [e9] at hk;exact Nat.lt_irrefl _ (Nat.lt_of_lt_of_le GL7.out hk)) _⟩;have HB10 : Aside0 (Below w.heap.size w (wb.setCell ⟨g,pl.toNat*2+1,none⟩ (.slice Am X1.length cm))):=⟨zd (zC HB9.out hbb) HGW.out⟩;have H0_10 : Aside0 ((wb.setCell ⟨g,pl.toNat*2+1,none⟩ (.slice Am X1.length cm)).heap[g0]? = some (.cells #[.slice (some ⟨g,0,none⟩) T1.length cg,.int .i64 n1] 25 (0,0))):=⟨(Below.heap_setCell _ ⟨g,_,none⟩ _ g0 G0G.out).trans (zD H0_9.out hbb)⟩;have H2_10 : Aside0 ((wb.setCell ⟨g,pl.toNat*2+1,none⟩ (.slice Am X1.length cm)).heap[g2]? = some (.cells #[.slice none 0 0,.int .i64 0] 25 (0,0))):=⟨(Below.heap_setCell _ ⟨g,_,none⟩ _ g2 G2G.out).trans (zD H2_9.out hbb)⟩;have L710 : Aside0 (w7.heap.size≤(wb.setCell ⟨g,pl.toNat*2+1,none⟩ (.slice Am X1.length cm)).heap.size):=⟨by simp;exact Nat.le_trans L79.out hbb.size⟩;clear hN8 hG8 hFe hXc erd hRa hRb hba hbb hcl_ hFK_ hcc_ hfr_ q9 f9 HB9 H0_9 H2_9 HN9 HC1 HFX9 L79 hcut1;generalize (wb.setCell ⟨g,pl.toNat*2+1,none⟩ (.slice Am X1.length cm))=w10 at *
    go_wp2_with fail
    have hC2:=Kd.F_imp HFX10.out (fun _ hC=>Kd.C_drop (c:=cc) (m:=hf) hC HFL.out HXC.out);rw [zw] at hC2;replace hC2 : Kd.F k28 w10 (fun k_=>w7.heap.size≤k_) A2 (X.length - hf) (X.drop hf):=by rw [HA2.out];exact hC2
    have HC2:=zh (Kd.F_drew hC2);have HB11:=zh (zc HB10.out);have H0_11:=zh (zf H0_10.out);have H2_11:=zh (zf H2_10.out);have HN11:=zh (Kd.N_drew HN10.out);have L711 : Aside0 (w7.heap.size≤w10.drew.heap.size):=L710;obtain ⟨X2,hX2⟩ : ∃ X2 : List (S28),X2=[]++X.drop hf:=⟨_,rfl⟩;have HX2:=zh hX2;clear hC2 hX2;refine start_ (n:=10) (S:=fun w' => w'.cell? ⟨g0,1,none⟩=some (.int .i64 n1)) (ds:=[9]) (bm_ 0 10) jA rfl rfl ((zz H0_11.out 1).trans rfl) (fun hHeld=>?_);generalize w10.drew=w11 at HB11 H0_11 H2_11 HN11 HC2 L711 hHeld ⊢;clear HB10 H0_10 H2_10 HN10 HFX10 L710;refine pure_ (i:=0) (N:=some 100) (v:=?_) (a':=?_) (bm_ 1 10) rfl rfl jA (fun _ _ _ h=>h) (Or.inl ⟨by rfl,?_⟩) ?_ ?_;rotate_left;exact jb;rotate_left;exact jc
    refine pure_ (i:=3) (N:=some 103) (v:=?_) (a':=?_) #[true,false,false,true,false,false,false,false,false,false] rfl rfl jA (fun _ _ _ h=>h) (Or.inl ⟨by rfl,?_⟩) ?_ ?_;rotate_left;exact jb;rotate_left;exact jc
    refine pure_ (i:=4) (N:=some 104) (v:=?_) (a':=?_) #[true,false,false,true,true,false,false,false,false,false] rfl rfl jA (fun _ _ _ h=>h) (Or.inl ⟨by rfl,?_⟩) ?_ ?_;rotate_left;exact jb;rotate_left;exact jc
    refine pure_ (i:=5) (N:=some 105) (v:=?_) (a':=?_) #[true,false,false,true,true,true,false,false,false,false] rfl rfl jA (fun _ _ _ h=>h) (Or.inl ⟨by rfl,?_⟩) ?_ ?_;rotate_left;exact jb;rotate_left;exact jc
    refine take_ (i:=1) (N:=some 101) (v:=?_) (a':=?_) #[true,true,false,true,true,true,false,false,false,false] rfl rfl jA (fun _ _ _ h=>h) (Or.inl ⟨by rfl,?_⟩) hHeld ?_ ?_;rotate_left
    ·
     intro w' s0
     go_simp
     with_reducible rfl
    rotate_left
    exact jc
    refine join_ (σ:=Value×(Option Addr×Nat)×Nat) 1 (bm_ 9 10) (fun s => [(102,s.1),(106,.slice s.2.1.1 X2.length s.2.1.2),(107,.agg #[.int .i64 n1,.slice s.2.1.1 X2.length s.2.1.2]),(11,.pointer (some ⟨s.2.2,0,none⟩))]) (fun s w' => w'.heap[s.2.2]? = some (.cells #[.int .i64 0,.slice none 0 0] 60 (0,0))∧w11.heap.size≤s.2.2∧Kd.R k28 28 w' w11.heap.size (fun _=>True) (.slice s.2.1.1 X2.length s.2.1.2) X2∧Below w11.heap.size w11 w') ?_ ?_;rotate_left
    ·
     intro hCont
     refine two_ (i:=2) (j:=8) (Ni:=some 102) (Nj:=some 11) (bm_ 6 10) #[true,true,false,true,true,true,false,false,true,false] rfl rfl rfl rfl jA jB jB (fun K hK=>?_) (fun K hK=>?_)
     ·
      skip
      refine Kd.R_lit_step k28 _ 28 ?hg (N:=102) ?hd (xs:=([] : List (S28))) (inner:=[]) (ok:=fun _=>True) (okp:=fun _=>True) ?hr ?hp (fun _ hk=>hk) trivial (Below.refl _ _) (ye _) (by simp) ?_;(case hd=>rfl);(case hg=>rfl);(case hr=>go_simp <;> rfl);(case hp=>exact (Reps.none _ _));intro va wa hRa hba_ hga_ hna_;clear hga_ hna_;have hb2:=zC (Below.refl w11.heap.size w11) hba_;refine hK.out _ _ ((zz (zD H0_11.out hb2) 1).trans rfl) (fun hHeld=>?_);clear hK K;refine norm_ (a':=?_) ?_ ?_;rotate_left
      ·
       show Act.put _ (some 102) _=_
       simp only [Act.put,zi,zj,zk,zG,zH]
       rfl
      refine two_ (i:=6) (j:=8) (Ni:=some 106) (Nj:=some 11) (bm_ 7 10) #[true,true,true,true,true,true,false,false,true,false] rfl rfl rfl rfl jA jB jB (fun K hK=>?_) (fun K hK=>?_)
      ·
       skip
       refine Kd.R_append_rows_step k28 (w0:=w11) w11.heap.size (by rfl) (.tmp 102) (.tmp 105) 33 28 (.agg #[(.string ⟨#[]⟩),(.int .i64 0)]) 24 rfl Try.underlying33 info28 rfl jB jB va ([] : List (S28)) (X.drop hf) A2 (X.length - hf) (cc - hf) (fun _=>True) (fun _=>False) (by rfl) (by rfl) hRa (Kd.F_now (Kd.F_below HC2.out hb2)) (fun x cs h9=>F6.K_M x cs h9) (fun _ h9=>h9.elim) (fun _ _=>trivial) hb2 hb2.size jBq ?_;intro vb wb hRb hb6 hg6 hat6;rw [← HX2.out] at hRb;obtain ⟨Aq,cq,rfl⟩:=yk hRb;refine hK.out _ _ ((zz (zD H0_11.out hb6) 1).trans rfl) (fun hHeld=>?_);clear hK K;refine norm_ (a':=?_) ?_ ?_;rotate_left
       ·
        show Act.put _ (some 106) _=_
        simp only [Act.put,zi,zj,zk,zG,zH]
        rfl
       refine pure_ (i:=7) (N:=some 107) (v:=?_) (a':=?_) (bm_ 8 10) rfl rfl jA (fun _ _ _ h=>h) (Or.inl ⟨by rfl,?_⟩) ?_ ?_;rotate_left;exact jb;rotate_left;exact jc
       refine one_ (i:=8) (N:=some 11) (bm_ 9 10) rfl rfl jA jB (fun K hK=>?_);refine value_ (w1:=?_) (v:=?_) (by rfl) rfl ?_ ?_;rotate_left 2
       ·
        go_simp
        constructor
        ·
         rfl
        rfl
       refine hK.out _ _ ((zz (zD H0_11.out (za hb6 _)) 1).trans rfl) (fun hHeld=>?_);clear hK K;refine norm_ (a':=?_) ?_ ?_;rotate_left
       ·
        show Act.put _ (some 11) _=_
        simp only [Act.put,zi,zj,zk,zG,zH]
        rfl
       exact norm_ jt (hCont (va,(Aq,cq),wb.heap.size) _ ⟨(blk_new wb _),hb6.size,(zm hRb _),(za hb6 _)⟩)
      skip
      refine value_ (w1:=?_) (v:=?_) (by rfl) rfl ?_ ?_;rotate_left 2
      ·
       go_simp
       constructor
       ·
        rfl
       rfl
      refine hK.out _ _ ((zz (zD H0_11.out (za hb2 _)) 1).trans rfl) (fun hHeld=>?_);clear hK K;refine norm_ (a':=?_) ?_ ?_;rotate_left
      ·
       show Act.put _ (some 11) _=_
       simp only [Act.put,zi,zj,zk,zG,zH]
       rfl
      refine one_ (i:=6) (N:=some 106) #[true,true,true,true,true,true,true,false,true,false] rfl rfl jA jB (fun K hK=>?_);refine Kd.R_append_rows_step k28 (w0:=w11) w11.heap.size (by rfl) (.tmp 102) (.tmp 105) 33 28 (.agg #[(.string ⟨#[]⟩),(.int .i64 0)]) 24 rfl Try.underlying33 info28 rfl jB jB va ([] : List (S28)) (X.drop hf) A2 (X.length - hf) (cc - hf) (fun _=>True) (fun _=>False) (by rfl) (by rfl) (zm hRa _) (Kd.F_now (Kd.F_below HC2.out (za hb2 _))) (fun x cs h9=>F6.K_M x cs h9) (fun _ h9=>h9.elim) (fun _ _=>trivial) (za hb2 _) (za hb2 _).size jBq ?_;intro vb wb hRb hb6 hg6 hat6;rw [← HX2.out] at hRb;obtain ⟨Aq,cq,rfl⟩:=yk hRb;refine hK.out _ _ ((zz (zD H0_11.out hb6) 1).trans rfl) (fun hHeld=>?_);clear hK K;refine norm_ (a':=?_) ?_ ?_;rotate_left
      ·
       show Act.put _ (some 106) _=_
       simp only [Act.put,zi,zj,zk,zG,zH]
       rfl
      refine pure_ (i:=7) (N:=some 107) (v:=?_) (a':=?_) (bm_ 9 10) rfl rfl jA (fun _ _ _ h=>h) (Or.inl ⟨by rfl,?_⟩) ?_ ?_;rotate_left;exact jb;rotate_left;exact jc
      exact norm_ jt (hCont (va,(Aq,cq),wa.heap.size) _ ⟨((hg6.block _ (yi (blk_new wa _)) (fun he=>Nat.lt_irrefl _ (Kd.R_lt hRa _ he.symm))).trans (blk_new wa _)),hb2.size,hRb,hb6⟩)
     skip
     refine value_ (w1:=?_) (v:=?_) (by rfl) rfl ?_ ?_;rotate_left 2
     ·
      go_simp
      constructor
      ·
       rfl
      rfl
     refine hK.out _ _ ((zz (zD H0_11.out (za (Below.refl w11.heap.size w11) _)) 1).trans rfl) (fun hHeld=>?_);clear hK K;refine norm_ (a':=?_) ?_ ?_;rotate_left
     ·
      show Act.put _ (some 11) _=_
      simp only [Act.put,zi,zj,zk,zG,zH]
      rfl
     refine one_ (i:=2) (N:=some 102) #[true,true,true,true,true,true,false,false,true,false] rfl rfl jA jB (fun K hK=>?_);refine Kd.R_lit_step k28 _ 28 ?hg (N:=102) ?hd (xs:=([] : List (S28))) (inner:=[]) (ok:=fun _=>True) (okp:=fun _=>True) ?hr ?hp (fun _ hk=>hk) trivial (Below.refl _ _) (ye _) (by simp) ?_;(case hd=>rfl);(case hg=>rfl);(case hr=>go_simp <;> rfl);(case hp=>exact (Reps.none _ _));intro va wa hRa hba_ hga_ hna_;clear hga_ hna_;have hb2:=zC (za (Below.refl w11.heap.size w11) _) hba_;refine hK.out _ _ ((zz (zD H0_11.out hb2) 1).trans rfl) (fun hHeld=>?_);clear hK K;refine norm_ (a':=?_) ?_ ?_;rotate_left
     ·
      show Act.put _ (some 102) _=_
      simp only [Act.put,zi,zj,zk,zG,zH]
      rfl
     refine one_ (i:=6) (N:=some 106) #[true,true,true,true,true,true,true,false,true,false] rfl rfl jA jB (fun K hK=>?_);refine Kd.R_append_rows_step k28 (w0:=w11) w11.heap.size (by rfl) (.tmp 102) (.tmp 105) 33 28 (.agg #[(.string ⟨#[]⟩),(.int .i64 0)]) 24 rfl Try.underlying33 info28 rfl jB jB va ([] : List (S28)) (X.drop hf) A2 (X.length - hf) (cc - hf) (fun _=>True) (fun _=>False) (by rfl) (by rfl) (yx hRa (za (Below.refl w11.heap.size w11) _).size) (Kd.F_now (Kd.F_below HC2.out hb2)) (fun x cs h9=>F6.K_M x cs h9) (fun _ h9=>h9.elim) (fun _ _=>trivial) hb2 hb2.size jBq ?_;intro vb wb hRb hb6 hg6 hat6;rw [← HX2.out] at hRb;obtain ⟨Aq,cq,rfl⟩:=yk hRb;refine hK.out _ _ ((zz (zD H0_11.out hb6) 1).trans rfl) (fun hHeld=>?_);clear hK K;refine norm_ (a':=?_) ?_ ?_;rotate_left
     ·
      show Act.put _ (some 106) _=_
      simp only [Act.put,zi,zj,zk,zG,zH]
      rfl
     refine pure_ (i:=7) (N:=some 107) (v:=?_) (a':=?_) (bm_ 9 10) rfl rfl jA (fun _ _ _ h=>h) (Or.inl ⟨by rfl,?_⟩) ?_ ?_;rotate_left;exact jb;rotate_left;exact jc
     exact norm_ jt (hCont (va,(Aq,cq),w11.heap.size) _ ⟨((hg6.block _ (yi (zD (blk_new w11 _) hba_)) (fun he=>Nat.lt_irrefl _ (Nat.lt_of_lt_of_le (yi (blk_new w11 _)) (Kd.R_base hRa _ he.symm)))).trans (zD (blk_new w11 _) hba_)),(ye _),hRb,hb6⟩)
    rintro ⟨va,⟨Aq,cq⟩,bp⟩ wt ⟨hbox,hbp,hRb,hbt⟩;have q0:=zz hbox 0;have q1:=zz hbox 1;have f0:=zA hbox 0;have f1:=zA hbox 1;refine norm_ (a':=?_) ?_ ?_;rotate_left
    ·
     simp only [putAll,Act.put,zi,zj,zk]
     rfl
    refine last_ (i:=9) (N:=none) (bm_ 10 10) rfl rfl jA jB (fun K hK=>?_);refine skip_ (w1:=?_) (by rfl) rfl ?_ ?_;rotate_left
    ·
     go_simp
     rfl
    refine hK.out _ _ ?_;clear hK K;refine done_ jA ?_;have hne : ∀ q,q<w11.heap.size→q≠bp:=fun q hq e9=>Nat.lt_irrefl _ (Nat.lt_of_lt_of_le hq (e9 ▸ hbp));have l0_ : g0≠bp:=hne g0 (yi H0_11.out);have l2_ : g2≠bp:=hne g2 (yi H2_11.out);have HBP : Aside0 (((wt.setCell ⟨bp,0,none⟩ (.int .i64 n1)).setCell ⟨bp,1,none⟩ (.slice Aq X2.length cq)).heap[bp]? = some (.cells #[.int .i64 n1,.slice Aq X2.length cq] 60 (0,0))):=⟨blk_set (blk_set hbox 0 _) 1 _⟩;have hRt:=yf hRb hbox jB;have HF2 : Aside0 (Kd.F k28 ((wt.setCell ⟨bp,0,none⟩ (.int .i64 n1)).setCell ⟨bp,1,none⟩ (.slice Aq X2.length cq)) (fun k_=>w11.heap.size≤k_∧k_≠bp) Aq X2.length X2):=⟨Kd.F_far (p:=⟨bp,1,none⟩) (Kd.F_far (p:=⟨bp,0,none⟩) (Kd.F_mono (Kd.R_F (Kd.R_bound hRt)) (ok':=fun k_=>w11.heap.size≤k_∧k_≠bp) (fun _ hk=>⟨hk.2.1,hk.1.2⟩)) (fun _ hk=>hk.2) _) (fun _ hk=>hk.2) _⟩;have HXC2:=zh (yh hRb).2.1;have hwb : w.heap.size≤bp:=Nat.le_trans HB11.out.size hbp;have HB12 : Aside0 (Below w.heap.size w ((wt.setCell ⟨bp,0,none⟩ (.int .i64 n1)).setCell ⟨bp,1,none⟩ (.slice Aq X2.length cq))):=⟨zd (zd (zC HB11.out hbt) hwb) hwb⟩;have H0_12 : Aside0 (((wt.setCell ⟨bp,0,none⟩ (.int .i64 n1)).setCell ⟨bp,1,none⟩ (.slice Aq X2.length cq)).heap[g0]? = some (.cells #[.slice (some ⟨g,0,none⟩) T1.length cg,.int .i64 n1] 25 (0,0))):=⟨(Below.heap_setCell _ ⟨bp,_,none⟩ _ g0 l0_).trans ((Below.heap_setCell _ ⟨bp,_,none⟩ _ g0 l0_).trans (zD H0_11.out hbt))⟩;have H2_12 : Aside0 (((wt.setCell ⟨bp,0,none⟩ (.int .i64 n1)).setCell ⟨bp,1,none⟩ (.slice Aq X2.length cq)).heap[g2]? = some (.cells #[.slice none 0 0,.int .i64 0] 25 (0,0))):=⟨(Below.heap_setCell _ ⟨bp,_,none⟩ _ g2 l2_).trans ((Below.heap_setCell _ ⟨bp,_,none⟩ _ g2 l2_).trans (zD H2_11.out hbt))⟩;have HN12 : Aside0 (Kd.N k60 60 ((wt.setCell ⟨bp,0,none⟩ (.int .i64 n1)).setCell ⟨bp,1,none⟩ (.slice Aq X2.length cq)) w.heap.size (fun k_=>w3.heap.size≤k_) (.slice (some ⟨g,0,none⟩) T1.length cg) ((T1.set pl.toNat (⟨(rd_T60 T1 pl).f0,X⟩ : S60)).set pl.toNat (⟨(rd_T60 T1 pl).f0,X1⟩ : S60))):=⟨Kd.N_mono (Kd.N_far (p:=⟨bp,1,none⟩) (Kd.N_far (p:=⟨bp,0,none⟩) (Kd.N_below (Kd.N_bound HN11.out) hbt) (fun k_ hk=>hne k_ hk.2) _) (fun k_ hk=>hne k_ hk.2) _) (fun _ hk=>hk.1)⟩;have L712 : Aside0 (w7.heap.size≤((wt.setCell ⟨bp,0,none⟩ (.int .i64 n1)).setCell ⟨bp,1,none⟩ (.slice Aq X2.length cq)).heap.size):=⟨by simp;exact Nat.le_trans L711.out hbt.size⟩;have BP0:=zh (Ne.symm l0_);have BP2:=zh l2_;have BP3 : Aside0 (w3.heap.size≤bp):=⟨Nat.le_trans L37.out (Nat.le_trans L711.out hbp)⟩;have L311 : Aside0 (w3.heap.size≤w11.heap.size):=⟨Nat.le_trans L37.out L711.out⟩;clear hne l0_ l2_ hwb hRt hRb hbt hbox hbp q0 q1 f0 f1 hcut2 HB11 H0_11 H2_11 HN11 HC2 L711;generalize ((wt.setCell ⟨bp,0,none⟩ (.int .i64 n1)).setCell ⟨bp,1,none⟩ (.slice Aq X2.length cq))=w12 at *;have k0:=zz H0_12.out 0;have k1:=zz H0_12.out 1;have f1:=zA H0_12.out 1;have hw18:=HT3.out
    go_wp2_with fail
    clear k0 k1 f1 hw18;have HB13 : Aside0 (Below w.heap.size w (w12.setCell ⟨g0,1,none⟩ (.int .i64 (n1+1)))):=⟨zd HB12.out GB0.out⟩;have H0_13 : Aside0 ((w12.setCell ⟨g0,1,none⟩ (.int .i64 (n1+1))).heap[g0]? = some (.cells #[.slice (some ⟨g,0,none⟩) T1.length cg,.int .i64 (n1+1)] 25 (0,0))):=⟨blk_set H0_12.out 1 _⟩;have H2_13 : Aside0 ((w12.setCell ⟨g0,1,none⟩ (.int .i64 (n1+1))).heap[g2]? = some (.cells #[.slice none 0 0,.int .i64 0] 25 (0,0))):=⟨(Below.heap_setCell _ ⟨g0,_,none⟩ _ g2 (Ne.symm N02.out)).trans H2_12.out⟩;have HP_13 : Aside0 ((w12.setCell ⟨g0,1,none⟩ (.int .i64 (n1+1))).heap[bp]? = some (.cells #[.int .i64 n1,.slice Aq X2.length cq] 60 (0,0))):=⟨(Below.heap_setCell _ ⟨g0,_,none⟩ _ bp BP0.out).trans HBP.out⟩;have HN13 : Aside0 (Kd.N k60 60 (w12.setCell ⟨g0,1,none⟩ (.int .i64 (n1+1))) w.heap.size (fun k_=>w3.heap.size≤k_) (.slice (some ⟨g,0,none⟩) T1.length cg) ((T1.set pl.toNat (⟨(rd_T60 T1 pl).f0,X⟩ : S60)).set pl.toNat (⟨(rd_T60 T1 pl).f0,X1⟩ : S60))):=⟨Kd.N_far (p:=⟨g0,_,none⟩) HN12.out (fun _ hk e9=>by rw [e9] at hk;exact Nat.lt_irrefl _ (Nat.lt_of_lt_of_le L0.out hk)) _⟩;have HF13 : Aside0 (Kd.F k28 (w12.setCell ⟨g0,1,none⟩ (.int .i64 (n1+1))) (fun k_=>w11.heap.size≤k_∧k_≠bp) Aq X2.length X2):=⟨Kd.F_far (p:=⟨g0,_,none⟩) HF2.out (fun k_ hk e9=>by have h9:=hk.1;rw [e9] at h9;exact Nat.lt_irrefl _ (Nat.lt_of_lt_of_le L0.out (Nat.le_trans L311.out h9))) _⟩;have L313 : Aside0 (w3.heap.size≤(w12.setCell ⟨g0,1,none⟩ (.int .i64 (n1+1))).heap.size):=⟨by simp;exact Nat.le_trans L37.out L712.out⟩;clear HB12 H0_12 H2_12 HBP HN12 HF2 L712;generalize (w12.setCell ⟨g0,1,none⟩ (.int .i64 (n1+1)))=w13 at *;obtain ⟨Y,hY⟩ : ∃ Y,Y=(T1.set pl.toNat (⟨(rd_T60 T1 pl).f0,X⟩ : S60)).set pl.toNat (⟨(rd_T60 T1 pl).f0,X1⟩ : S60):=⟨_,rfl⟩;have hYl : Y.length=T1.length:=by rw [hY,List.length_set,List.length_set]
    have HN9:=zh (Kd.N_drew HN13.out);rw [← hY] at HN9;have HYL2:=zh hYl;have HF9:=zh (Kd.F_bound (Kd.F_drew HF13.out));have HB9:=zh (zc HB13.out);have H0_9:=zh (zf H0_13.out);have H2_9:=zh (zf H2_13.out);have HP_9:=zh (zf HP_13.out);have L39 : Aside0 (w3.heap.size≤w13.drew.heap.size):=L313;obtain ⟨Kn,rfl⟩ : ∃ Kn : Nat,pl=(Kn : Int):=⟨pl.toNat,(Int.toNat_of_nonneg hK0).symm⟩;have hKn : Kn<T1.length:=Int.ofNat_lt.1 HT1.out;have hKw:=F6.w_next Kn (Nat.le_trans (Nat.le_of_lt hKn) (Nat.le_trans HT2.out jB));have hKw2 : IntKind.i64.wrap ((Kn : Int)+1)=((Kn+1 : Nat) : Int):=(zG _).trans hKw;obtain ⟨j2,hj2⟩ : ∃ j : Nat,j=Kn+1:=⟨_,rfl⟩;have hjw2 : IntKind.i64.wrap ((Kn : Int)+1)=(j2 : Int):=by rw [hj2];exact hKw2
    have hjl2 : j2≤T1.length:=by rw [hj2];exact hKn
    have hi6 : (0 : Int)≤(j2 : Int):=Int.natCast_nonneg _;have hi7 : (j2 : Int)≤(T1.length : Int):=Int.ofNat_le.2 hjl2;obtain ⟨i0_,hi0_,_,hsz_,_⟩:=info_parts info60;have hcgl : T1.length≤cg:=(Kd.N_reads' HN9.out).2.1;have hcut1:=cut_to (P:=Try.prog) 23 60 .i64 Try.underlying23 hi0_ (some ⟨g,0,none⟩) T1.length cg (j2 : Int) hi6 hi7 hcgl;have hcut2:=cut_from (P:=Try.prog) 23 60 .i64 Try.underlying23 hi0_ 2 hsz_ (some ⟨g,0,none⟩) T1.length cg (j2 : Int) hi6 hi7;rw [Int.toNat_natCast] at hcut1 hcut2;have hFY:=Kd.F_bound (Kd.N_F HN9.out);rw [← hYl] at hFY;have hC1:=Kd.F_imp hFY (fun _ hC=>Kd.C_take (m:=j2) hC jBr);have hC2:=Kd.F_imp hFY (fun _ hC=>Kd.C_drop (c:=cg) (m:=j2) hC jBr (by rw [hYl];exact hcgl));rw [zx,Nat.min_eq_left jBr] at hC1;rw [zw,hYl] at hC2;obtain ⟨A2,hA2⟩ : ∃ A2,A2=(if cg=j2 then (some (⟨g,0,none⟩ : Addr)) else (some (⟨g,0,none⟩ : Addr)).map (·.add (j2*2))):=⟨_,rfl⟩;rw [← hA2] at hcut2;replace hC2 : Kd.F k60 w13.drew (fun k_=>w3.heap.size≤k_∧k_<w13.drew.heap.size) A2 (T1.length - j2) (Y.drop j2):=by rw [hA2];exact hC2
    have HJL2:=zh hjl2;have HC1:=zh hC1;have HC2:=zh hC2
    have HYR : Aside0 (Y.take (Kn+1) ++ [(⟨n1,X2⟩ : S60)]++Y.drop (Kn+1)=r1):=⟨by
     have e1 : X.take (X.length / 2)=X1:=by rw [HX1.out,List.nil_append,HHF.out]
     have e2 : X.drop (X.length / 2)=X2:=by rw [HX2.out,List.nil_append,HHF.out]
     have h9:=HR1.out;rw [e1,e2,← hY,Int.toNat_natCast] at h9
     exact h9⟩
    have HJ2:=zh hj2;clear hC1 hC2 hA2 hi0_ hsz_ hFY hcgl hY hYl hKw hKw2 hj2 hjl2 HN13 HR1 hKn;refine start_ (n:=18) (S:=fun w' => w'.cell? ⟨g0,0,none⟩=some (.slice (some ⟨g,0,none⟩) T1.length cg)∧w'.cell? ⟨bp,0,none⟩=some (.int .i64 n1)∧w'.cell? ⟨bp,1,none⟩=some (.slice Aq X2.length cq)) (ds:=[17]) (bm_ 0 18) jA rfl rfl ⟨(zz H0_9.out 0).trans rfl,(zz HP_9.out 0).trans rfl,(zz HP_9.out 1).trans rfl⟩ (fun hHeld=>?_);generalize w13.drew=w9 at HB9 H0_9 H2_9 HP_9 L39 HC1 HC2 HN9 HF9 hHeld ⊢;clear HB13 H0_13 H2_13 HP_13 HF13 L313;refine pure_ (i:=1) (N:=some 113) (v:=?_) (a':=?_) #[false,true,false,false,false,false,false,false,false,false,false,false,false,false,false,false,false,false] rfl rfl jA (fun _ _ _ h=>h) (Or.inl ⟨by rfl,?_⟩) ?_ ?_;rotate_left;exact jb;rotate_left;exact jc
    refine pure_ (i:=3) (N:=some 115) (v:=?_) (a':=?_) #[false,true,false,true,false,false,false,false,false,false,false,false,false,false,false,false,false,false] rfl rfl jA (fun _ _ _ h=>h) (Or.inl ⟨by rfl,?_⟩) ?_ ?_;rotate_left;exact jb;rotate_left;exact jc
    refine pure_ (i:=4) (N:=some 116) (v:=?_) (a':=?_) #[false,true,false,true,true,false,false,false,false,false,false,false,false,false,false,false,false,false] rfl rfl jA (fun _ _ _ h=>h) (Or.inl ⟨by rfl,?_⟩) ?_ ?_;rotate_left;exact jb;rotate_left;exact jc
    refine pure_ (i:=10) (N:=some 122) (v:=?_) (a':=?_) #[false,true,false,true,true,false,false,false,false,false,true,false,false,false,false,false,false,false] rfl rfl jA (fun _ _ _ h=>h) (Or.inl ⟨by rfl,?_⟩) ?_ ?_;rotate_left;exact jb;rotate_left;exact jc
    refine pure_ (i:=12) (N:=some 124) (v:=?_) (a':=?_) #[false,true,false,true,true,false,false,false,false,false,true,false,true,false,false,false,false,false] rfl rfl jA (fun _ _ _ h=>h) (Or.inl ⟨by rfl,?_⟩) ?_ ?_;rotate_left;exact jb;rotate_left;exact jc
    refine pure_ (i:=13) (N:=some 125) (v:=?_) (a':=?_) #[false,true,false,true,true,false,false,false,false,false,true,false,true,true,false,false,false,false] rfl rfl jA (fun _ _ _ h=>h) (Or.inl ⟨by rfl,?_⟩) ?_ ?_;rotate_left;exact jb;rotate_left;exact jc
    refine take_ (i:=2) (N:=some 114) (v:=?_) (a':=?_) #[false,true,true,true,true,false,false,false,false,false,true,false,true,true,false,false,false,false] rfl rfl jA (fun _ _ _ h=>h) (Or.inl ⟨by rfl,?_⟩) hHeld ?_ ?_;rotate_left
    ·
     rintro w' ⟨s0,s1,s2⟩
     go_simp
     with_reducible rfl
    rotate_left
    exact jc
    refine pure_ (i:=5) (N:=some 117) (v:=?_) (a':=?_) #[false,true,true,true,true,true,false,false,false,false,true,false,true,true,false,false,false,false] rfl rfl jA (fun _ _ _ h=>h) (Or.inl ⟨by rfl,?_⟩) ?_ ?_;rotate_left;exact jb;rotate_left;exact jc
    refine take_ (i:=7) (N:=some 119) (v:=?_) (a':=?_) #[false,true,true,true,true,true,false,true,false,false,true,false,true,true,false,false,false,false] rfl rfl jA (fun _ _ _ h=>h) (Or.inl ⟨by rfl,?_⟩) hHeld ?_ ?_;rotate_left
    ·
     rintro w' ⟨s0,s1,s2⟩
     go_simp
     with_reducible rfl
    rotate_left
    exact jc
    refine take_ (i:=11) (N:=some 123) (v:=?_) (a':=?_) #[false,true,true,true,true,true,false,true,false,false,true,true,true,true,false,false,false,false] rfl rfl jA (fun _ _ _ h=>h) (Or.inl ⟨by rfl,?_⟩) hHeld ?_ ?_;rotate_left
    ·
     rintro w' ⟨s0,s1,s2⟩
     go_simp
     with_reducible rfl
    rotate_left
    exact jc
    refine pure_ (i:=14) (N:=some 126) (v:=?_) (a':=?_) #[false,true,true,true,true,true,false,true,false,false,true,true,true,true,true,false,false,false] rfl rfl jA (fun _ _ _ h=>h) (Or.inl ⟨by rfl,?_⟩) ?_ ?_;rotate_left;exact jb;rotate_left;exact jc
    refine join_ (σ:=Value×Value×(Option Addr×Nat)) 4 #[true,true,true,true,true,true,true,true,true,false,true,true,true,true,true,false,false,false] (fun s => [(112,s.1),(118,s.2.1),(120,.slice s.2.2.1 1 s.2.2.2)]) (fun s w' => Kd.N k60 60 w' w9.heap.size (fun k_=>w3.heap.size≤k_) s.2.1 ([]++Y.take j2)∧Kd.F k60 w' (fun k_=>w3.heap.size≤k_∧some k_≠s.2.1.ownBlock) s.2.2.1 1 [(⟨n1,X2⟩ : S60)]∧Below w9.heap.size w9 w') ?_ ?_;rotate_left
    ·
     intro hCont
     refine two_ (i:=0) (j:=8) (Ni:=some 112) (Nj:=some 120) #[true,true,true,true,true,true,false,true,false,false,true,true,true,true,true,false,false,false] #[false,true,true,true,true,true,false,true,true,false,true,true,true,true,true,false,false,false] rfl rfl rfl rfl jA jB jB (fun K hK=>?_) (fun K hK=>?_)
     ·
      skip
      refine Kd.N_lit_step k60 _ 60 ?hg (N':=112) ?hd (xs:=([] : List (S60))) (inner:=[]) (ok:=(fun k_=>w3.heap.size≤k_)) (okp:=(fun k_=>w3.heap.size≤k_)) ?hr ?hp (fun _ hk=>hk) (Nat.le_trans L39.out (Below.refl w9.heap.size w9).size) (Below.refl _ _) (ye _) (by simp) ?_;(case hd=>rfl);(case hg=>rfl);(case hr=>go_simp <;> rfl);(case hp=>exact (Reps.none _ _));intro va wa hNa hba_ hga_ hna_;clear hga_ hna_;have hb0:=zC (Below.refl w9.heap.size w9) hba_;refine hK.out _ _ ⟨(zz (zD H0_9.out hb0) 0).trans rfl,(zz (zD HP_9.out hb0) 0).trans rfl,(zz (zD HP_9.out hb0) 1).trans rfl⟩ (fun hHeld=>?_);clear hK K;refine norm_ (a':=?_) ?_ ?_;rotate_left
      ·
       show Act.put _ (some 112) _=_
       simp only [Act.put,zi,zj,zk,zG,zH]
       rfl
      refine two_ (i:=6) (j:=8) (Ni:=some 118) (Nj:=some 120) #[true,true,true,true,true,true,true,true,false,false,true,true,true,true,true,false,false,false] #[true,true,true,true,true,true,false,true,true,false,true,true,true,true,true,false,false,false] rfl rfl rfl rfl jA jB jB (fun K hK=>?_) (fun K hK=>?_)
      ·
       skip
       refine Kd.N_append_rows_step k60 (w0:=w9) w9.heap.size (by rfl) (.tmp 112) (.tmp 117) 23 60 (.agg #[(.int .i64 0),(.slice none 0 0)]) 32 rfl Try.underlying23 info60 rfl jB jB va ([] : List (S60)) (Y.take j2) (some ⟨g,0,none⟩) j2 cg (fun k_=>w3.heap.size≤k_) (fun k_=>w3.heap.size≤k_∧k_<w9.heap.size) (by rfl) (by rfl) hNa (Kd.F_below HC1.out hb0) (fun k_ hk=>⟨hk.1,fun e9=>Nat.lt_irrefl _ (Nat.lt_of_lt_of_le hk.2 (Nat.le_trans (ye _) (Kd.N_base hNa k_ e9.symm)))⟩) (fun _ hk=>Nat.le_trans L39.out (Nat.le_trans hb0.size hk)) hb0 hb0.size jBP ?_;intro vb wb hNb hb6 hg6 hat6;refine hK.out _ _ ⟨(zz (zD H0_9.out hb6) 0).trans rfl,(zz (zD HP_9.out hb6) 0).trans rfl,(zz (zD HP_9.out hb6) 1).trans rfl⟩ (fun hHeld=>?_);clear hK K;refine norm_ (a':=?_) ?_ ?_;rotate_left
       ·
        show Act.put _ (some 118) _=_
        simp only [Act.put,zi,zj,zk,zG,zH]
        rfl
       refine one_ (i:=8) (N:=some 120) #[true,true,true,true,true,true,true,true,true,false,true,true,true,true,true,false,false,false] rfl rfl jA jB (fun K hK=>?_);refine Kd.N_lit_step k60 _ 60 ?hg (N':=120) ?hd (xs:=[(⟨n1,X2⟩ : S60)]) (inner:=[.int .i64 n1,.slice Aq X2.length cq]) (ok:=(fun k_=>w3.heap.size≤k_∧some k_≠vb.ownBlock)) (okp:=(fun k_=>w3.heap.size≤k_∧k_<w9.heap.size)) ?hr ?hp (fun k_ hk=>⟨hk.1,fun e9=>Nat.lt_irrefl _ (Nat.lt_of_lt_of_le hk.2 (Kd.N_base hNb k_ e9.symm))⟩) ⟨(Nat.le_trans L39.out hb6.size),fun e9=>Nat.lt_irrefl _ (Kd.N_lt hNb _ e9.symm)⟩ (Below.refl _ _) (ye _) (by simp) ?_;(case hd=>rfl);(case hg=>rfl);(case hr=>go_simp <;> rfl);(case hp=>exact (Go.Proofs.Ytgifonogfgpjdaa.Row.reps_one (k60_mkF _ _ (⟨n1,X2⟩ : S60) HXC2.out (Kd.F_mono (Kd.F_below HF9.out hb6) (fun _ hk=>⟨Nat.le_trans L311.out hk.1.1,hk.2⟩))) rfl));intro vl wl hNl hbl_ hga_ hna_;clear hga_ hna_;obtain ⟨Ax,cx,hvl⟩:=Kd.N_slice hNl;replace hvl : vl = .slice Ax 1 cx:=hvl;subst hvl;have hb8:=zC hb6 hbl_;refine hK.out _ _ ⟨(zz (zD H0_9.out hb8) 0).trans rfl,(zz (zD HP_9.out hb8) 0).trans rfl,(zz (zD HP_9.out hb8) 1).trans rfl⟩ (fun hHeld=>?_);clear hK K;refine norm_ (a':=?_) ?_ ?_;rotate_left
       ·
        show Act.put _ (some 120) _=_
        simp only [Act.put,zi,zj,zk,zG,zH]
        rfl
       exact norm_ jt (hCont (va,vb,(Ax,cx)) _ ⟨Kd.N_below hNb hbl_,Kd.N_F hNl,hb8⟩)
      skip
      refine Kd.N_lit_step k60 _ 60 ?hg (N':=120) ?hd (xs:=[(⟨n1,X2⟩ : S60)]) (inner:=[.int .i64 n1,.slice Aq X2.length cq]) (ok:=(fun k_=>w3.heap.size≤k_∧some k_≠va.ownBlock)) (okp:=(fun k_=>w3.heap.size≤k_∧k_<w9.heap.size)) ?hr ?hp (fun k_ hk=>⟨hk.1,fun e9=>Nat.lt_irrefl _ (Nat.lt_of_lt_of_le hk.2 (Kd.N_base hNa k_ e9.symm))⟩) ⟨(Nat.le_trans L39.out hb0.size),fun e9=>Nat.lt_irrefl _ (Kd.N_lt hNa _ e9.symm)⟩ (Below.refl _ _) (ye _) (by simp) ?_;(case hd=>rfl);(case hg=>rfl);(case hr=>go_simp <;> rfl);(case hp=>exact (Go.Proofs.Ytgifonogfgpjdaa.Row.reps_one (k60_mkF _ _ (⟨n1,X2⟩ : S60) HXC2.out (Kd.F_mono (Kd.F_below HF9.out hb0) (fun _ hk=>⟨Nat.le_trans L311.out hk.1.1,hk.2⟩))) rfl));intro vl wl hNl hbl_ hga_ hna_;clear hga_ hna_;obtain ⟨Ax,cx,hvl⟩:=Kd.N_slice hNl;replace hvl : vl = .slice Ax 1 cx:=hvl;subst hvl;have hb8:=zC hb0 hbl_;refine hK.out _ _ ⟨(zz (zD H0_9.out hb8) 0).trans rfl,(zz (zD HP_9.out hb8) 0).trans rfl,(zz (zD HP_9.out hb8) 1).trans rfl⟩ (fun hHeld=>?_);clear hK K;refine norm_ (a':=?_) ?_ ?_;rotate_left
      ·
       show Act.put _ (some 120) _=_
       simp only [Act.put,zi,zj,zk,zG,zH]
       rfl
      refine one_ (i:=6) (N:=some 118) #[true,true,true,true,true,true,true,true,true,false,true,true,true,true,true,false,false,false] rfl rfl jA jB (fun K hK=>?_);refine Kd.N_append_rows_step k60 (w0:=w9) w9.heap.size (by rfl) (.tmp 112) (.tmp 117) 23 60 (.agg #[(.int .i64 0),(.slice none 0 0)]) 32 rfl Try.underlying23 info60 rfl jB jB va ([] : List (S60)) (Y.take j2) (some ⟨g,0,none⟩) j2 cg (fun k_=>w3.heap.size≤k_) (fun k_=>w3.heap.size≤k_∧k_<w9.heap.size) (by rfl) (by rfl) (Kd.N_below hNa hbl_) (Kd.F_below HC1.out hb8) (fun k_ hk=>⟨hk.1,fun e9=>Nat.lt_irrefl _ (Nat.lt_of_lt_of_le hk.2 (Nat.le_trans (ye _) (Kd.N_base hNa k_ e9.symm)))⟩) (fun _ hk=>Nat.le_trans L39.out (Nat.le_trans hb8.size hk)) hb8 hb8.size jBP ?_;intro vb wb hNb hb6 hg6 hat6;refine hK.out _ _ ⟨(zz (zD H0_9.out hb6) 0).trans rfl,(zz (zD HP_9.out hb6) 0).trans rfl,(zz (zD HP_9.out hb6) 1).trans rfl⟩ (fun hHeld=>?_);clear hK K;refine norm_ (a':=?_) ?_ ?_;rotate_left
      ·
       show Act.put _ (some 118) _=_
       simp only [Act.put,zi,zj,zk,zG,zH]
       rfl
      exact norm_ jt (hCont (va,vb,(Ax,cx)) _ ⟨hNb,Kd.F_after (Kd.N_F hNl) hg6 hat6,hb6⟩)
     skip
     refine Kd.N_lit_step k60 _ 60 ?hg (N':=120) ?hd (xs:=[(⟨n1,X2⟩ : S60)]) (inner:=[.int .i64 n1,.slice Aq X2.length cq]) (ok:=(fun k_=>w3.heap.size≤k_)) (okp:=(fun k_=>w3.heap.size≤k_∧k_<w9.heap.size)) ?hr ?hp (fun _ hk=>hk.1) (Nat.le_trans L39.out (Below.refl w9.heap.size w9).size) (Below.refl _ _) (ye _) (by simp) ?_;(case hd=>rfl);(case hg=>rfl);(case hr=>go_simp <;> rfl);(case hp=>exact (Go.Proofs.Ytgifonogfgpjdaa.Row.reps_one (k60_mkF _ _ (⟨n1,X2⟩ : S60) HXC2.out (Kd.F_mono (Kd.F_below HF9.out (Below.refl w9.heap.size w9)) (fun _ hk=>⟨Nat.le_trans L311.out hk.1.1,hk.2⟩))) rfl));intro vl wl hNl hbl_ hga_ hna_;clear hga_ hna_;obtain ⟨Ax,cx,hvl⟩:=Kd.N_slice hNl;replace hvl : vl = .slice Ax 1 cx:=hvl;subst hvl;have hb8:=zC (Below.refl w9.heap.size w9) hbl_;refine hK.out _ _ ⟨(zz (zD H0_9.out hb8) 0).trans rfl,(zz (zD HP_9.out hb8) 0).trans rfl,(zz (zD HP_9.out hb8) 1).trans rfl⟩ (fun hHeld=>?_);clear hK K;refine norm_ (a':=?_) ?_ ?_;rotate_left
     ·
      show Act.put _ (some 120) _=_
      simp only [Act.put,zi,zj,zk,zG,zH]
      rfl
     refine one_ (i:=0) (N:=some 112) #[true,true,true,true,true,true,false,true,true,false,true,true,true,true,true,false,false,false] rfl rfl jA jB (fun K hK=>?_);refine Kd.N_lit_step k60 _ 60 ?hg (N':=112) ?hd (xs:=([] : List (S60))) (inner:=[]) (ok:=(fun k_=>w3.heap.size≤k_)) (okp:=(fun k_=>w3.heap.size≤k_)) ?hr ?hp (fun _ hk=>hk) (Nat.le_trans L39.out hb8.size) (Below.refl _ _) (ye _) (by simp) ?_;(case hd=>rfl);(case hg=>rfl);(case hr=>go_simp <;> rfl);(case hp=>exact (Reps.none _ _));intro va wa hNa hba_ hga_ hna_;clear hga_ hna_;have hb0:=zC hb8 hba_;refine hK.out _ _ ⟨(zz (zD H0_9.out hb0) 0).trans rfl,(zz (zD HP_9.out hb0) 0).trans rfl,(zz (zD HP_9.out hb0) 1).trans rfl⟩ (fun hHeld=>?_);clear hK K;refine norm_ (a':=?_) ?_ ?_;rotate_left
     ·
      show Act.put _ (some 112) _=_
      simp only [Act.put,zi,zj,zk,zG,zH]
      rfl
     refine one_ (i:=6) (N:=some 118) #[true,true,true,true,true,true,true,true,true,false,true,true,true,true,true,false,false,false] rfl rfl jA jB (fun K hK=>?_);refine Kd.N_append_rows_step k60 (w0:=w9) w9.heap.size (by rfl) (.tmp 112) (.tmp 117) 23 60 (.agg #[(.int .i64 0),(.slice none 0 0)]) 32 rfl Try.underlying23 info60 rfl jB jB va ([] : List (S60)) (Y.take j2) (some ⟨g,0,none⟩) j2 cg (fun k_=>w3.heap.size≤k_) (fun k_=>w3.heap.size≤k_∧k_<w9.heap.size) (by rfl) (by rfl) (Kd.N_lower hNa hb8.size) (Kd.F_below HC1.out hb0) (fun k_ hk=>⟨hk.1,fun e9=>Nat.lt_irrefl _ (Nat.lt_of_lt_of_le hk.2 (Nat.le_trans hb8.size (Kd.N_base hNa k_ e9.symm)))⟩) (fun _ hk=>Nat.le_trans L39.out (Nat.le_trans hb0.size hk)) hb0 hb0.size jBP ?_;intro vb wb hNb hb6 hg6 hat6;refine hK.out _ _ ⟨(zz (zD H0_9.out hb6) 0).trans rfl,(zz (zD HP_9.out hb6) 0).trans rfl,(zz (zD HP_9.out hb6) 1).trans rfl⟩ (fun hHeld=>?_);clear hK K;refine norm_ (a':=?_) ?_ ?_;rotate_left
     ·
      show Act.put _ (some 118) _=_
      simp only [Act.put,zi,zj,zk,zG,zH]
      rfl
     exact norm_ jt (hCont (va,vb,(Ax,cx)) _ ⟨hNb,Kd.F_after (Kd.F_elder' (Kd.N_F hNl) (Kd.N_base hNa) hba_) hg6 hat6,hb6⟩)
    rintro ⟨va,vb,Ax,cx⟩ wt ⟨hNb,hFl_,hbt⟩;have hHeld : wt.cell? ⟨g0,0,none⟩=some (.slice (some ⟨g,0,none⟩) T1.length cg)∧wt.cell? ⟨bp,0,none⟩=some (.int .i64 n1)∧wt.cell? ⟨bp,1,none⟩=some (.slice Aq X2.length cq):=⟨(zz (zD H0_9.out hbt) 0).trans rfl,(zz (zD HP_9.out hbt) 0).trans rfl,(zz (zD HP_9.out hbt) 1).trans rfl⟩;refine norm_ (a':=?_) ?_ ?_;rotate_left
    ·
     simp only [putAll,Act.put,zi,zj,zk]
     rfl
    refine one_ (i:=9) (N:=some 121) (bm_ 15 18) rfl rfl jA jB (fun K hK=>?_);refine Kd.N_append_rows_step k60 (w0:=w9) w9.heap.size (by rfl) (.tmp 118) (.tmp 120) 23 60 (.agg #[(.int .i64 0),(.slice none 0 0)]) 32 rfl Try.underlying23 info60 rfl jB jB vb ([]++Y.take j2) [(⟨n1,X2⟩ : S60)] Ax 1 cx (fun k_=>w3.heap.size≤k_) (fun k_=>w3.heap.size≤k_∧some k_≠vb.ownBlock) (by rfl) (by rfl) hNb hFl_ (fun _ hk=>hk) (fun _ hk=>Nat.le_trans L39.out (Nat.le_trans hbt.size hk)) hbt hbt.size jBP ?_;intro vd wd hNd hbd hg_ hat_;clear hg_ hat_;refine hK.out _ _ ⟨(zz (zD H0_9.out hbd) 0).trans rfl,(zz (zD HP_9.out hbd) 0).trans rfl,(zz (zD HP_9.out hbd) 1).trans rfl⟩ (fun hHeld=>?_);clear hK K;refine norm_ (a':=?_) ?_ ?_;rotate_left
    ·
     show Act.put _ (some 121) _=_
     simp only [Act.put,zi,zj,zk,zG,zH]
     rfl
    refine one_ (i:=15) (N:=some 127) (bm_ 16 18) rfl rfl jA jB (fun K hK=>?_);refine Kd.N_append_rows_step k60 (w0:=w9) w9.heap.size (by rfl) (.tmp 121) (.tmp 126) 23 60 (.agg #[(.int .i64 0),(.slice none 0 0)]) 32 rfl Try.underlying23 info60 rfl jB jB vd (([]++Y.take j2) ++ [(⟨n1,X2⟩ : S60)]) (Y.drop j2) A2 (T1.length - j2) (cg - j2) (fun k_=>w3.heap.size≤k_) (fun k_=>w3.heap.size≤k_∧k_<w9.heap.size) (by rfl) (by rfl) hNd (Kd.F_below HC2.out hbd) (fun k_ hk=>⟨hk.1,fun e9=>Nat.lt_irrefl _ (Nat.lt_of_lt_of_le hk.2 (Kd.N_base hNd k_ e9.symm))⟩) (fun _ hk=>Nat.le_trans L39.out (Nat.le_trans hbd.size hk)) hbd hbd.size jBP ?_;intro ve we hNe hbe hg_ hat_;clear hg_ hat_;obtain ⟨Z,hZ⟩ : ∃ Z : List (S60),Z=(([]++Y.take j2) ++ [(⟨n1,X2⟩ : S60)])++Y.drop j2:=⟨_,rfl⟩;rw [← hZ] at hNe;have HZ:=zh hZ;clear hZ;obtain ⟨Ac2,cc2,rfl⟩:=Kd.N_slice hNe;have hce:=(zz (zD H0_9.out hbe) 0).trans (show _=some (.slice (some ⟨g,0,none⟩) T1.length cg) from rfl);have f9:=zA (zD H0_9.out hbe) 0;refine hK.out _ _ ⟨(zz (zD H0_9.out hbe) 0).trans rfl,(zz (zD HP_9.out hbe) 0).trans rfl,(zz (zD HP_9.out hbe) 1).trans rfl⟩ (fun hHeld=>?_);clear hK K;refine norm_ (a':=?_) ?_ ?_;rotate_left
    ·
     show Act.put _ (some 127) _=_
     simp only [Act.put,zi,zj,zk,zG,zH]
     rfl
    refine pure_ (i:=16) (N:=some 128) (v:=?_) (a':=?_) (bm_ 17 18) rfl rfl jA (fun _ _ _ h=>h) (Or.inl ⟨by rfl,?_⟩) ?_ ?_;rotate_left;exact jb;rotate_left;exact jc
    refine last_ (i:=17) (N:=none) (bm_ 18 18) rfl rfl jA jB (fun K hK=>?_);refine skip_ (w1:=?_) (by rfl) rfl ?_ ?_;rotate_left
    ·
     go_simp
     rfl
    refine hK.out _ _ ?_;clear hK K;refine done_ jA ?_;have hZe : Y.take (Kn+1) ++ [(⟨n1,X2⟩ : S60)]++Y.drop (Kn+1)=Z:=by rw [HZ.out,List.nil_append,HJ2.out]
    obtain rfl : Z=r1:=hZe.symm.trans HYR.out;have HB14 : Aside0 (Below w.heap.size w (we.setCell ⟨g0,0,none⟩ (.slice Ac2 Z.length cc2))):=⟨zd (zC HB9.out hbe) GB0.out⟩;have H0_14 : Aside0 ((we.setCell ⟨g0,0,none⟩ (.slice Ac2 Z.length cc2)).heap[g0]? = some (.cells #[.slice Ac2 Z.length cc2,.int .i64 (n1+1)] 25 (0,0))):=⟨blk_set (zD H0_9.out hbe) 0 _⟩;have H2_14 : Aside0 ((we.setCell ⟨g0,0,none⟩ (.slice Ac2 Z.length cc2)).heap[g2]? = some (.cells #[.slice none 0 0,.int .i64 0] 25 (0,0))):=⟨(Below.heap_setCell _ ⟨g0,_,none⟩ _ g2 (Ne.symm N02.out)).trans (zD H2_9.out hbe)⟩;have HP_14 : Aside0 ((we.setCell ⟨g0,0,none⟩ (.slice Ac2 Z.length cc2)).heap[bp]? = some (.cells #[.int .i64 n1,.slice Aq X2.length cq] 60 (0,0))):=⟨(Below.heap_setCell _ ⟨g0,_,none⟩ _ bp BP0.out).trans (zD HP_9.out hbe)⟩;have HV14 : Aside0 (Kd.V k60 60 (we.setCell ⟨g0,0,none⟩ (.slice Ac2 Z.length cc2)) w.heap.size (fun k_=>w3.heap.size≤k_) (.slice Ac2 Z.length cc2) Z):=⟨Kd.V_far (p:=⟨g0,0,none⟩) (Kd.N_V hNe) (fun _ hk e9=>by rw [e9] at hk;exact Nat.lt_irrefl _ (Nat.lt_of_lt_of_le L0.out hk)) _⟩;clear hcut1 hcut2 hZe hNb hFl_ hbt hNd hbd hNe hbe hce f9 HB9 H0_9 H2_9 HP_9 HN9 HF9 HC1 HC2 hjw2;generalize (we.setCell ⟨g0,0,none⟩ (.slice Ac2 Z.length cc2))=w14 at *
    go_wp2_with fail
    have HB15:=zh (zc HB14.out);have H0_15:=zh (zf H0_14.out);have H2_15:=zh (zf H2_14.out);have HP_15:=zh (zf HP_14.out);have HV15:=zh (Kd.V_drew HV14.out);have q0:=zz H2_15.out 0;have q1:=zz H2_15.out 1;have f0:=zA H2_15.out 0;have f1:=zA H2_15.out 1;refine start_ (n:=6) (S:=fun w' => w'.cell? ⟨g0,0,none⟩=some (.slice Ac2 Z.length cc2)∧w'.cell? ⟨g0,1,none⟩=some (.int .i64 (n1+1))∧w'.cell? ⟨bp,0,none⟩=some (.int .i64 n1)) (ds:=[]) (bm_ 0 6) jA rfl rfl ⟨(zz H0_15.out 0).trans rfl,(zz H0_15.out 1).trans rfl,(zz HP_15.out 0).trans rfl⟩ (fun hHeld=>?_);generalize w14.drew=w15 at HB15 H0_15 H2_15 HP_15 HV15 q0 q1 f0 f1 hHeld ⊢;clear HB14 H0_14 H2_14 HP_14 HV14;refine pure_ (i:=1) (N:=some 130) (v:=?_) (a':=?_) #[false,true,false,false,false,false] rfl rfl jA (fun _ _ _ h=>h) (Or.inl ⟨by rfl,?_⟩) ?_ ?_;rotate_left;exact jb;rotate_left;exact jc
    refine take_ (i:=0) (N:=some 129) (v:=?_) (a':=?_) (bm_ 2 6) rfl rfl jA (fun _ _ _ h=>h) (Or.inl ⟨by rfl,?_⟩) hHeld ?_ ?_;rotate_left
    ·
     rintro w' ⟨s0,s1,s2⟩
     go_simp
     with_reducible rfl
    rotate_left
    exact jc
    refine take_ (i:=2) (N:=some 131) (v:=?_) (a':=?_) (bm_ 3 6) rfl rfl jA (fun _ _ _ h=>h) (Or.inl ⟨by rfl,?_⟩) hHeld ?_ ?_;rotate_left
    ·
     rintro w' ⟨s0,s1,s2⟩
     go_simp
     with_reducible rfl
    rotate_left
    exact jc
    refine one_ (i:=3) (N:=none) (bm_ 4 6) rfl rfl jA jB (fun K hK=>?_);refine skip_ (w1:=?_) (by rfl) rfl ?_ ?_;rotate_left
    ·
     go_simp
     rfl
    refine hK.out _ _ ⟨(zz ((Below.heap_setCell _ ⟨g2,_,none⟩ _ g0 N02.out).trans ((Below.heap_setCell _ ⟨g2,_,none⟩ _ g0 N02.out).trans H0_15.out)) 0).trans rfl,(zz ((Below.heap_setCell _ ⟨g2,_,none⟩ _ g0 N02.out).trans ((Below.heap_setCell _ ⟨g2,_,none⟩ _ g0 N02.out).trans H0_15.out)) 1).trans rfl,(zz ((Below.heap_setCell _ ⟨g2,_,none⟩ _ bp (Ne.symm BP2.out)).trans ((Below.heap_setCell _ ⟨g2,_,none⟩ _ bp (Ne.symm BP2.out)).trans HP_15.out)) 0).trans rfl⟩ (fun hHeld=>?_);clear hK K;refine pure_ (i:=4) (N:=some 5) (v:=?_) (a':=?_) (bm_ 5 6) rfl rfl jA (fun _ _ _ h=>h) (Or.inl ⟨by rfl,?_⟩) ?_ ?_;rotate_left;exact jb;rotate_left;exact jc
    refine pure_ (i:=5) (N:=some 6) (v:=?_) (a':=?_) (bm_ 6 6) rfl rfl jA (fun _ _ _ h=>h) (Or.inl ⟨by rfl,?_⟩) ?_ ?_;rotate_left;exact jb;rotate_left;exact jc
    refine done_ jA ?_
    go_wp2_with fail
    refine bodyPost_ret (results_ctt rfl _ _ g2 25 #[.slice Ac2 Z.length cc2,.int .i64 (n1+1)] (0,0) _ rfl (blk_set (blk_set H2_15.out 0 (.slice Ac2 Z.length cc2)) 1 (.int .i64 (n1+1))) hu25 rfl jA) rfl ?_;exact ⟨_,rfl,Kd.V_mono (Kd.V_far (p:=⟨g2,1,none⟩) (Kd.V_far (p:=⟨g2,0,none⟩) HV15.out (fun _ hk e9=>by rw [e9] at hk;exact Nat.lt_irrefl _ (Nat.lt_of_lt_of_le L2.out hk)) _) (fun _ hk e9=>by rw [e9] at hk;exact Nat.lt_irrefl _ (Nat.lt_of_lt_of_le L2.out hk)) _) (fun _ hk => .inr (Nat.le_trans GB0.out (Nat.le_trans (Nat.le_of_lt L0.out) hk))),zd (zd HB15.out GB2.out) GB2.out⟩

end Go.Proofs.Ytgifonogfgpjdaa.Q
end
section
namespace Go.Proofs.Ytgifonogfgpjdaa.Q
open Go.RowKit Go.Proofs.YtgifonogfgpjdaaW.PrintWords Go.Proofs.YtgifonogfgpjdaaW.PrintLast Go.Proofs.YtgifonogfgpjdaaW.PrintMore
attribute [local go_sem] max2_int min2_int max_two min_two max_three min_three max_four min_four max2_str min2_str str_geq str_gtr str_leq
set_option linter.unusedVariables false
set_option linter.unusedSimpArgs false

def F03.f (a0 : Int) (a1 : Int) (a2 : Int) : Option (Bool):=if a1≤a0 then (some (decide (a0≤a2))) else (some false)
set_option maxHeartbeats 8000000 in
set_option maxRecDepth 100000 in
theorem F03.calls (a0 : Int) (a1 : Int) (a2 : Int) (r : Bool) (w : World) (h : F03.f a0 a1 a2=some r) :
  Calls Try.prog 49 #[.int .i64 a0,.int .i64 a1,.int .i64 a2] w fun e w' => e = .returned (.bool r)∧Drawn0 w w':=by
 have H : (if a1≤a0 then (some (decide (a0≤a2))) else (some false))=some r:=h;clear h
 by_cases c4 : a1≤a0
 ·
  rw [if_pos c4] at H
  have c4b0 : decide (a1≤a0)=true:=decide_eq_true c4;clear c4;obtain rfl:=zU H
  go_enter Try.func49,Try.ntmps49
  go_wp2
  go_ret
  exact ⟨jE,jI⟩
 rw [if_neg c4] at H;have c4b0 : decide (a1≤a0)=false:=decide_eq_false c4;clear c4;obtain rfl:=zU H
 go_enter Try.func49,Try.ntmps49
 go_wp2
 go_ret
 exact ⟨jE,jI⟩


def F07.f (a0_0 : ByteArray) (a0_1 : Int) : Option (Bool):=if (a0_0.size : Int)≤2000 then ((F03.f a0_1 0 9999).bind fun t357=>(some t357)) else (some false)
set_option maxHeartbeats 8000000 in
set_option maxRecDepth 100000 in
theorem F07.calls (a0_0 : ByteArray) (a0_1 : Int) (r : Bool) (w : World) (h : F07.f a0_0 a0_1=some r) :
  Calls Try.prog 35 #[.agg #[.string a0_0,.int .i64 a0_1]] w fun e w' => e = .returned (.bool r)∧Below w.heap.size w w':=by
 have hu28:=Try.underlying28;have HB:=zh (Below.refl w.heap.size w);have H : (if (a0_0.size : Int)≤2000 then ((F03.f a0_1 0 9999).bind fun t357=>(some t357)) else (some false))=some r:=h;clear h
 by_cases c2 : (a0_0.size : Int)≤2000
 ·
  rw [if_pos c2] at H
  have c2b0 : decide ((a0_0.size : Int)≤2000)=true:=decide_eq_true c2;have c2b1 : decide (a0_0.size≤2000)=true:=decide_eq_true jD;clear c2;replace H:=zT.mp H;obtain ⟨t357,A30,H⟩:=H;have A3:=zh A30;clear A30;obtain rfl:=zU H
  go_enter Try.func35,Try.ntmps35
  go_wp2_with (first|((with_reducible refine zK (N:=1) rfl ?_);refine zI ?hg (N:=1) ?hd (cs:=#[.string a0_0,.int .i64 a0_1]) (t:=28) ?hr ?_;(case hd=>rfl);(case hg=>rfl);(case hr=>go_simp <;> rfl);intro gb356 hg w4 hbox hb;have BK356:=zh (hbox);have hH_:=cH jH hb hg;have GW356:=zh hH_.1;have GE356:=GW356;replace HB:=zh hH_.2;clear hb hbox hg hH_;obtain ⟨hcz5_0,hcz5_1,hfz5_0,hfz5_1⟩:=cB2 BK356.out)|(go_at_call 49;(with_reducible refine (F03.calls  a0_1 0 9999 t357 _ A3.out).mono ?_);rintro e w' ⟨rfl,⟨nd,rfl⟩⟩))
  go_ret
  exact ⟨jG,jDH⟩
 rw [if_neg c2] at H;have c2b0 : decide ((a0_0.size : Int)≤2000)=false:=decide_eq_false c2;have c2b1 : decide (a0_0.size≤2000)=false:=decide_eq_false jD;clear c2;obtain rfl:=zU H
 go_enter Try.func35,Try.ntmps35
 go_wp2_with (first|((with_reducible refine zK (N:=1) rfl ?_);refine zI ?hg (N:=1) ?hd (cs:=#[.string a0_0,.int .i64 a0_1]) (t:=28) ?hr ?_;(case hd=>rfl);(case hg=>rfl);(case hr=>go_simp <;> rfl);intro gb356 hg w6 hbox hb;have BK356:=zh (hbox);have hH_:=cH jH hb hg;have GW356:=zh hH_.1;have GE356:=GW356;replace HB:=zh hH_.2;clear hb hbox hg hH_;obtain ⟨hcz7_0,hcz7_1,hfz7_0,hfz7_1⟩:=cB2 BK356.out))
 go_ret
 exact ⟨jG,jDH⟩

end Go.Proofs.Ytgifonogfgpjdaa.Q
end
section
namespace Go.Proofs.Ytgifonogfgpjdaa.Q
open Go.RowKit Go.Proofs.YtgifonogfgpjdaaW.PrintWords Go.Proofs.YtgifonogfgpjdaaW.PrintLast Go.Proofs.YtgifonogfgpjdaaW.PrintMore
attribute [local go_sem] max2_int min2_int max_two min_two max_three min_three max_four min_four max2_str min2_str str_geq str_gtr str_leq   -- for this text's walks alone
set_option linter.unusedVariables false
set_option linter.unusedSimpArgs false

mutual
def F4.j0 : Nat→Bool→List (S60)→Int→Option (Bool)
 | 0,_,_,_=>none
 | k+1,x18,x359000,x359001=>if x18=true then (some false) else (F4.l0 k 0 x359000 x359001 (⟨#[]⟩ : ByteArray) (-1))
def F4.l0 : Nat→Int→List (S60)→Int→ByteArray→Int→Option (Bool)
 | 0,_,_,_,_,_=>none
 | k+1,x4,x359000,x359001,x362000,x362001=>if x4<(x359000.length : Int) then (if 0≤x4 then ((F03.f ((rd_T60 x359000 x4).f0) 1 (wrap64 (x359001 - 1))).bind fun t364=>(if t364=true then (if (((rd_T60 x359000 x4).f1).length : Int) > 4 then (F4.j2 k x4 true x359000 x359001 x362000 x362001 ((rd_T60 x359000 x4).f0) ((rd_T60 x359000 x4).f1)) else (if (((rd_T60 x359000 x4).f1).length : Int)=0 then (F4.j2 k x4 (decide ((x359000.length : Int) > 1)) x359000 x359001 x362000 x362001 ((rd_T60 x359000 x4).f0) ((rd_T60 x359000 x4).f1)) else (F4.j2 k x4 false x359000 x359001 x362000 x362001 ((rd_T60 x359000 x4).f0) ((rd_T60 x359000 x4).f1)))) else (F4.j2 k x4 true x359000 x359001 x362000 x362001 ((rd_T60 x359000 x4).f0) ((rd_T60 x359000 x4).f1)))) else (none)) else (some true)
def F4.j2 : Nat→Int→Bool→List (S60)→Int→ByteArray→Int→Int→List (S28)→Option (Bool)
 | 0,_,_,_,_,_,_,_,_=>none
 | k+1,x4,x56,x359000,x359001,x362000,x362001,x364000,x364001=>if x56=true then (some false) else (F4.l1 k x4 0 x359000 x359001 x362000 x362001 x364000 x364001)
def F4.l1 : Nat→Int→Int→List (S60)→Int→ByteArray→Int→Int→List (S28)→Option (Bool)
 | 0,_,_,_,_,_,_,_,_=>none
 | k+1,x4,x6,x359000,x359001,x362000,x362001,x364000,x364001=>if x6<x4 then (if 0≤x6 then (if x6<(x359000.length : Int) then (if ((rd_T60 x359000 x6).f0)=x364000 then (some false) else (F4.l1 k x4 (wrap64 (x6+1)) x359000 x359001 x362000 x362001 x364000 x364001)) else (none)) else (none)) else (F4.l2 k x4 0 x359000 x359001 x362000 x362001 x364000 x364001)
def F4.l2 : Nat→Int→Int→List (S60)→Int→ByteArray→Int→Int→List (S28)→Option (Bool)
 | 0,_,_,_,_,_,_,_,_=>none
 | k+1,x4,x7,x359000,x359001,x362000,x362001,x364000,x364001=>if x7<(x364001.length : Int) then (if 0≤x7 then ((F07.f ((rd_T28 x364001 x7).f0) ((rd_T28 x364001 x7).f1)).bind fun t367=>(if t367=true then ((F0d.f x362000 x362001 ((rd_T28 x364001 x7).f0) ((rd_T28 x364001 x7).f1)).bind fun t369=>(if t369=true then (F4.l2 k x4 (wrap64 (x7+1)) x359000 x359001 ((rd_T28 x364001 x7).f0) ((rd_T28 x364001 x7).f1) x364000 x364001) else (some false))) else (some false))) else (none)) else (F4.l0 k (wrap64 (x4+1)) x359000 x359001 x362000 x362001)
end
def F4.f (k : Nat) (l0_0 : List (S60)) (a0_1 : Int) : Option (Bool):=(F03.f (l0_0.length : Int) 1 60).bind fun t359=>(if t359=true then ((F03.f a0_1 2 100000).bind fun t360=>(F4.j0 k (!t360) l0_0 a0_1)) else (F4.j0 k true l0_0 a0_1))
theorem F4.mono_l : ∀ k,(∀ y0 y1 y2,LeO (F4.j0 k y0 y1 y2) (F4.j0 (k+1) y0 y1 y2))∧(∀ y0 y1 y2 y3 y4,LeO (F4.l0 k y0 y1 y2 y3 y4) (F4.l0 (k+1) y0 y1 y2 y3 y4))∧(∀ y0 y1 y2 y3 y4 y5 y6 y7,LeO (F4.j2 k y0 y1 y2 y3 y4 y5 y6 y7) (F4.j2 (k+1) y0 y1 y2 y3 y4 y5 y6 y7))∧(∀ y0 y1 y2 y3 y4 y5 y6 y7,LeO (F4.l1 k y0 y1 y2 y3 y4 y5 y6 y7) (F4.l1 (k+1) y0 y1 y2 y3 y4 y5 y6 y7))∧(∀ y0 y1 y2 y3 y4 y5 y6 y7,LeO (F4.l2 k y0 y1 y2 y3 y4 y5 y6 y7) (F4.l2 (k+1) y0 y1 y2 y3 y4 y5 y6 y7))
 | 0=>⟨fun _ _ _ r h=>by simp [F4.j0] at h,fun _ _ _ _ _ r h=>by simp [F4.l0] at h,fun _ _ _ _ _ _ _ _ r h=>by simp [F4.j2] at h,fun _ _ _ _ _ _ _ _ r h=>by simp [F4.l1] at h,fun _ _ _ _ _ _ _ _ r h=>by simp [F4.l2] at h⟩
 | k+1=>by
  obtain ⟨ih0,ih1,ih2,ih3,ih4⟩:=F4.mono_l k;refine ⟨?_,?_,?_,?_,?_⟩
  ·
   intro y0 y1 y2
   unfold F4.j0
   repeat' first|(with_reducible first|exact ih0 _ _ _|exact ih1 _ _ _ _ _|exact ih2 _ _ _ _ _ _ _ _|exact ih3 _ _ _ _ _ _ _ _|exact ih4 _ _ _ _ _ _ _ _|exact zQ _|exact zN _|refine zP ?_ ?_|refine zO ?_ (fun _=>?_))|refine zP ?_ ?_|refine zO ?_ (fun _=>?_)
  ·
   intro y0 y1 y2 y3 y4
   unfold F4.l0
   repeat' first|(with_reducible first|exact ih0 _ _ _|exact ih1 _ _ _ _ _|exact ih2 _ _ _ _ _ _ _ _|exact ih3 _ _ _ _ _ _ _ _|exact ih4 _ _ _ _ _ _ _ _|exact zQ _|exact zN _|refine zP ?_ ?_|refine zO ?_ (fun _=>?_))|refine zP ?_ ?_|refine zO ?_ (fun _=>?_)
  ·
   intro y0 y1 y2 y3 y4 y5 y6 y7
   unfold F4.j2
   repeat' first|(with_reducible first|exact ih0 _ _ _|exact ih1 _ _ _ _ _|exact ih2 _ _ _ _ _ _ _ _|exact ih3 _ _ _ _ _ _ _ _|exact ih4 _ _ _ _ _ _ _ _|exact zQ _|exact zN _|refine zP ?_ ?_|refine zO ?_ (fun _=>?_))|refine zP ?_ ?_|refine zO ?_ (fun _=>?_)
  ·
   intro y0 y1 y2 y3 y4 y5 y6 y7
   unfold F4.l1
   repeat' first|(with_reducible first|exact ih0 _ _ _|exact ih1 _ _ _ _ _|exact ih2 _ _ _ _ _ _ _ _|exact ih3 _ _ _ _ _ _ _ _|exact ih4 _ _ _ _ _ _ _ _|exact zQ _|exact zN _|refine zP ?_ ?_|refine zO ?_ (fun _=>?_))|refine zP ?_ ?_|refine zO ?_ (fun _=>?_)
  intro y0 y1 y2 y3 y4 y5 y6 y7;unfold F4.l2
  repeat' first|(with_reducible first|exact ih0 _ _ _|exact ih1 _ _ _ _ _|exact ih2 _ _ _ _ _ _ _ _|exact ih3 _ _ _ _ _ _ _ _|exact ih4 _ _ _ _ _ _ _ _|exact zQ _|exact zN _|refine zP ?_ ?_|refine zO ?_ (fun _=>?_))|refine zP ?_ ?_|refine zO ?_ (fun _=>?_)
theorem F4.mono : ∀ a0 a1 k,LeO (F4.f k a0 a1) (F4.f (k+1) a0 a1):=by
 intro a0 a1 k;obtain ⟨ih0,ih1,ih2,ih3,ih4⟩:=F4.mono_l k;unfold F4.f
 repeat' first|(with_reducible first|exact ih0 _ _ _|exact ih1 _ _ _ _ _|exact ih2 _ _ _ _ _ _ _ _|exact ih3 _ _ _ _ _ _ _ _|exact ih4 _ _ _ _ _ _ _ _|exact zQ _|exact zN _|refine zP ?_ ?_|refine zO ?_ (fun _=>?_))|refine zP ?_ ?_|refine zO ?_ (fun _=>?_)
def F4.T13 : Bool×List (List Nat×List Nat):=(true,[([],[]),([0],[0]),([],[]),([1,2],[1,2]),([3],[3]),([4],[4]),([],[]),([6],[6]),([5,7],[5,7])])
def F4.B13 : List Nat:=[0,1,0,7,15,31,0,64,255]
theorem F4.tab13 : rtab .any (opsOf Try.f29 13)=F4.T13:=by kernel_rfl
theorem F4.bits13 : waitsOk F4.T13.2 F4.B13=true:=by kernel_rfl
def F4.T18 : Bool×List (List Nat×List Nat):=(true,[([],[]),([0],[0]),([],[]),([1,2],[1,2]),([3],[3]),([4],[4]),([5],[5]),([6,5],[6]),([7],[7]),([7],[7]),([9,7],[7,9]),([7],[7]),([10,11,7],[7,10,11]),([12,7],[7,12]),([8,13,7,7],[7,8,13]),([14,7],[7,14]),([7,15],[7,15])])
def F4.B18 : List Nat:=[0,1,0,7,15,31,63,127,255,255,767,255,3839,7935,16383,32767,65535]
theorem F4.tab18 : rtab .any (opsOf Try.f29 18)=F4.T18:=by kernel_rfl
theorem F4.bits18 : waitsOk F4.T18.2 F4.B18=true:=by kernel_rfl
set_option maxHeartbeats 8000000 in
set_option maxRecDepth 100000 in
theorem F4.calls (k : Nat) (A0_0 : Option Addr) (c0_0 : Nat) (l0_0 : List (S60)) (a0_1 : Int) (r : Bool) (w : World) (hr0_0 : Kd.C k60 w A0_0 l0_0.length l0_0) (hc0_0 : l0_0.length≤c0_0) (h : F4.f k l0_0 a0_1=some r) :
  Calls Try.prog 29 #[.agg #[.slice A0_0 l0_0.length c0_0,.int .i64 a0_1]] w fun e w' => e = .returned (.bool r)∧Below w.heap.size w w':=by
 have hu25:=Try.underlying25;have hu28:=Try.underlying28;have hu60:=Try.underlying60;have HR0_0:=zh hr0_0;have HC0_0:=zh hc0_0;clear hr0_0 hc0_0;have HB:=zh (Below.refl w.heap.size w);have H : ((F03.f (l0_0.length : Int) 1 60).bind fun t359=>(if t359=true then ((F03.f a0_1 2 100000).bind fun t360=>(F4.j0 k (!t360) l0_0 a0_1)) else (F4.j0 k true l0_0 a0_1)))=some r:=h;clear h;have HC2:=zh H;clear H
 go_enter Try.func29,Try.ntmps29
 go_upto_region 1 with (first|((with_reducible refine zK (N:=1) rfl ?_);(try (refine yy (by rfl) ?_;dsimp only));refine zI ?hg (N:=1) ?hd (cs:=#[.slice A0_0 l0_0.length c0_0,.int .i64 a0_1]) (t:=25) ?hr ?_;(case hd=>rfl);(case hg=>rfl);(case hr=>go_simp <;> rfl);intro gb358 hg w3 hbox hb;have BK358:=zh (hbox);have hH_:=cH jH hb hg;have GW358:=zh hH_.1;have GE358:=GW358;replace HB:=zh hH_.2;clear hb hbox hg hH_))
 (try simp only [Act.put,zi,zj,zk])
 go_cut [18] (fun v18 wc => ∃ (kq : Nat) (x18_1 : Bool),v18 = .bool x18_1∧Aside0 (F4.j0 kq x18_1 l0_0 a0_1=some r)∧Aside0 (kq≤k)∧Aside0 (wc.heap[gb358]? = some (.cells #[(.slice A0_0 l0_0.length c0_0),.int .i64 a0_1] 25 (0,0)))∧Aside0 (Below w.heap.size w wc))
 case first =>
  have H:=HC2.out;clear HC2;replace H:=zT.mp H;obtain ⟨t359,A40,H⟩:=H;have A4:=zh A40;clear A40
  by_cases c5 : t359=true
  ·
   subst c5
   rw [if_pos rfl] at H;replace H:=zT.mp H;obtain ⟨t360,A60,H⟩:=H;have A6:=zh A60;clear A60;have H':=zh H;clear H;obtain ⟨hcz7_0,hcz7_1,hfz7_0,hfz7_1⟩:=cB2 BK358.out
   go_wp2_with (first|((with_reducible refine zJ (f:=49) rfl ?_);refine yj (some 11) rfl rfl Try.func49 jA rfl #[.int .i64 (l0_0.length : Int),.int .i64 1,.int .i64 60] rfl jF ?_;(with_reducible refine (F03.calls  (l0_0.length : Int) 1 60 true _ A4.out).mono ?_);rintro e w' ⟨rfl,⟨nd,rfl⟩⟩;refine ⟨_,rfl,?_⟩)|(go_at_call 49;(with_reducible refine (F03.calls  a0_1 2 100000 t360 _ A6.out).mono ?_);rintro e w' ⟨rfl,⟨nd,rfl⟩⟩))
   go_meet
   case rel=>exact ⟨_,(!t360),jE,H',⟨jAI⟩,⟨jm⟩,⟨jBs⟩⟩
  replace c5:=yb.mpr c5;subst c5;rw [if_neg (show ¬ (false=true) by decide)] at H;have H':=zh H;clear H;obtain ⟨hcz8_0,hcz8_1,hfz8_0,hfz8_1⟩:=cB2 BK358.out
  go_wp2_with (first|((with_reducible refine zJ (f:=49) rfl ?_);refine yj (some 11) rfl rfl Try.func49 jA rfl #[.int .i64 (l0_0.length : Int),.int .i64 1,.int .i64 60] rfl jF ?_;(with_reducible refine (F03.calls  (l0_0.length : Int) 1 60 false _ A4.out).mono ?_);rintro e w' ⟨rfl,⟨nd,rfl⟩⟩;refine ⟨_,rfl,?_⟩))
  go_meet
  case rel=>exact ⟨_,(true),jE,H',⟨jAI⟩,⟨jm⟩,⟨jBs⟩⟩
 case rest =>
  clear HC2
  try clear c2
  try clear p2
  try clear c4 c5
  try clear hcz7_0 hcz7_1
  try clear hcz8_0 hcz8_1
  try clear hfz7_0 hfz7_1
  try clear hfz8_0 hfz8_1
  obtain ⟨kq,x18_1,rfl,HA,HJ1,BK358,HB⟩:=hcut
  cases kq with
  | zero=>exact absurd HA.out (by simp [F4.j0])
  | succ kj1 =>
   have H:=HA.out;clear HA;simp only [F4.j0] at H
   by_cases c9 : x18_1=true
   ·
    subst c9
    rw [if_pos rfl] at H;obtain rfl:=zU H
    go_wp2
    go_ret
    exact ⟨jG,jBs⟩
   replace c9:=yb.mpr c9;subst c9;rw [if_neg (show ¬ (false=true) by decide)] at H;have H':=zh H;clear H
   go_wp2_with (first|((with_reducible refine zK (N:=3) rfl ?_);(try (refine yy (by rfl) ?_;dsimp only));refine zI ?hg (N:=3) ?hd (cs:=#[.string (⟨#[]⟩ : ByteArray),.int .i64 0]) (t:=28) ?hr ?_;(case hd=>rfl);(case hg=>rfl);(case hr=>go_simp <;> rfl);intro gb361 hg w10 hbox hb;have BK361:=zh (hbox);have hH_:=cH jBs hb hg;have GW361:=zh hH_.1;have GE361:=GW361;replace HB:=zh hH_.2;have NB358_361:=zh ((by rw [hg];exact yc (yi (g:=gb358) (o:=.cells #[.slice A0_0 l0_0.length c0_0,.int .i64 a0_1] 25 (0,0)) jm) : gb358≠gb361));have NB361_358:=zh NB358_361.out.symm;replace BK358:=zh (cD BK358.out jm hb);clear hb hbox hg hH_;have hnb11:=NB361_358.out;have hnc11:=NB358_361.out;obtain ⟨hcz12_0,hcz12_1,hfz12_0,hfz12_1⟩:=cB2 BK361.out))
   go_loopg [4] kj1 (fun kq v4 w' => ∃ (x4_2 : Int) (x362000_2 : ByteArray) (x362001_2 : Int),v4 = .int .i64 x4_2∧Aside0 (F4.l0 kq x4_2 l0_0 a0_1 x362000_2 x362001_2=some r)∧Aside0 (kq≤kj1)∧Aside0 (w'.heap[gb358]? = some (.cells #[(.slice A0_0 l0_0.length c0_0),.int .i64 a0_1] 25 (0,0)))∧Aside0 (w'.heap[gb361]? = some (.cells #[.string x362000_2,.int .i64 x362001_2] 28 (0,0)))∧Aside0 (Below w.heap.size w w'))
   case atStart=>exact ⟨(0),((⟨#[]⟩ : ByteArray)),((-1)),jE,H',⟨ye _⟩,⟨jDI⟩,⟨by (with_reducible repeat first|apply ze|apply zf|apply zg);refine zL (cs:=#[.string (⟨#[]⟩ : ByteArray),.int .i64 0]) ?_ 1 _ rfl;(with_reducible repeat first|apply ze|apply zf|apply zg);refine zL (cs:=#[.string (⟨#[]⟩ : ByteArray),.int .i64 0]) ?_ 0 _ rfl;(with_reducible repeat first|apply ze|apply zf|apply zg);exact BK361.out⟩,⟨jCM⟩⟩
   case round =>
    clear H'
    try clear c1 c2
    try clear p2
    try clear c4 c5 c9 c11
    try clear hcz12_0 hcz12_1
    try clear hcz7_0 hcz7_1
    try clear hcz8_0 hcz8_1
    try clear hfz12_0 hfz12_1
    try clear hfz7_0 hfz7_1
    try clear hfz8_0 hfz8_1
    try clear p2
    obtain ⟨x4_2,x362000_2,x362001_2,rfl,HA,HK2,BK358,BK361,HB⟩:=hrel
    cases gk with
    | zero=>exact absurd HA.out (by simp [F4.l0])
    | succ k2 =>
     have H:=HA.out;clear HA;simp only [F4.l0] at H
     by_cases c13 : x4_2<(l0_0.length : Int)
     ·
      rw [if_pos c13] at H
      have c13b0 : decide (x4_2<(l0_0.length : Int))=true:=decide_eq_true c13;clear c13
      by_cases c14 : 0≤x4_2
      ·
       rw [if_pos c14] at H
       have c14b0 : decide (0≤x4_2)=true:=decide_eq_true c14;clear c14;have HC15:=zh H;clear H;have hnb16:=NB358_361.out;have hnc16:=NB361_358.out;obtain ⟨hcz17_0,hcz17_1,hfz17_0,hfz17_1⟩:=cB2 BK358.out;have p362 : 0≤(x4_2 : Int):=zy jC;have q362 : x4_2<(l0_0.length : Int):=zy jC;obtain ⟨ad362,A362_1,c362_1,e362,hx362_0,hx362_1,hl362_1,hi362_1⟩:=at_T60 HR0_0.out x4_2 p362 q362
       cases e362
       replace hx362_0:=(HB.out.cell (zl w _ hx362_0)).trans hx362_0;replace hx362_1:=(HB.out.cell (zl w _ hx362_1)).trans hx362_1;have HR362_1:=zh hi362_1;have HC362_1:=zh hl362_1;clear hi362_1 hl362_1;replace p362:=eq_true p362;replace q362:=eq_true q362
       go_upto_region 8 with (first|((with_reducible refine zK (N:=5) rfl ?_);(try (refine yy (by rfl) ?_;dsimp only));refine zI ?hg (N:=5) ?hd (cs:=#[.int .i64 0,.slice none 0 0]) (t:=60) ?hr ?_;(case hd=>rfl);(case hg=>rfl);(case hr=>go_simp <;> rfl);intro gb363 hg w18 hbox hb;have BK363:=zh (hbox);have hH_:=cH jCM hb hg;have GW363:=zh hH_.1;have GE363:=GW363;replace HB:=zh hH_.2;have NB358_363:=zh ((by rw [hg];exact yc (yi (g:=gb358) (o:=.cells #[.slice (some ad362) l0_0.length c0_0,.int .i64 a0_1] 25 (0,0)) jm) : gb358≠gb363));have NB363_358:=zh NB358_363.out.symm;replace BK358:=zh (cD BK358.out jm hb);have NB361_363:=zh ((by rw [hg];exact yc (yi (g:=gb361) (o:=.cells #[.string x362000_2,.int .i64 x362001_2] 28 (0,0)) jAE) : gb361≠gb363));have NB363_361:=zh NB361_363.out.symm;replace BK361:=zh (cD BK361.out jAE hb);clear hb hbox hg hH_;have hnb19:=NB363_358.out;have hnc19:=NB358_363.out;have hnb20:=NB363_361.out;have hnc20:=NB361_363.out;obtain ⟨hcz21_0,hcz21_1,hfz21_0,hfz21_1⟩:=cB2 BK363.out))
       (try simp only [Act.put,zi,zj,zk])
       go_cut [56] (fun v56 wc => ∃ (kq : Nat) (x56_14 : Bool),v56 = .bool x56_14∧Aside0 (F4.j2 kq x4_2 x56_14 l0_0 a0_1 x362000_2 x362001_2 ((rd_T60 l0_0 x4_2).f0) ((rd_T60 l0_0 x4_2).f1)=some r)∧Aside0 (kq≤k2)∧Aside0 (wc.heap[gb358]? = some (.cells #[(.slice (some ad362) l0_0.length c0_0),.int .i64 a0_1] 25 (0,0)))∧Aside0 (wc.heap[gb361]? = some (.cells #[.string x362000_2,.int .i64 x362001_2] 28 (0,0)))∧Aside0 (wc.heap[gb363]? = some (.cells #[.int .i64 ((rd_T60 l0_0 x4_2).f0),(.slice A362_1 ((rd_T60 l0_0 x4_2).f1).length c362_1)] 60 (0,0)))∧Aside0 (Below w.heap.size w wc))
       case first =>
        have H:=HC15.out;clear HC15;replace H:=zT.mp H;obtain ⟨t364,A220,H⟩:=H;have A22:=zh A220;clear A220
        by_cases c23 : t364=true
        ·
         subst c23
         rw [if_pos rfl] at H
         by_cases c24 : (((rd_T60 l0_0 x4_2).f1).length : Int) > 4
         ·
          rw [if_pos c24] at H
          have c24b0 : decide (4<(((rd_T60 l0_0 x4_2).f1).length : Int))=true:=decide_eq_true c24;have c24b1 : decide (4<((rd_T60 l0_0 x4_2).f1).length)=true:=decide_eq_true jD;clear c24;(first|rw [c24b0]|(simp only [zG,zH];rw [c24b0])|skip);have H':=zh H;clear H;have hnb25:=NB363_358.out;have hnc25:=NB358_363.out;have hnb26:=NB363_361.out;have hnc26:=NB361_363.out;obtain ⟨hcz27_0,hcz27_1,hfz27_0,hfz27_1⟩:=cB2 BK363.out;have hnb28:=NB358_361.out;have hnc28:=NB361_358.out;obtain ⟨hcz29_0,hcz29_1,hfz29_0,hfz29_1⟩:=cB2 BK358.out
          go_wp2_with (first|((with_reducible refine zJ (f:=49) rfl ?_);refine yj (some 37) rfl rfl Try.func49 jA rfl #[.int .i64 ((rd_T60 l0_0 x4_2).f0),.int .i64 1,.int .i64 (wrap64 (a0_1 - 1))] rfl jF ?_;(with_reducible refine (F03.calls  ((rd_T60 l0_0 x4_2).f0) 1 (wrap64 (a0_1 - 1)) true _ A22.out).mono ?_);rintro e w' ⟨rfl,⟨nd,rfl⟩⟩;refine ⟨_,rfl,?_⟩))
          go_meet
          case rel=>exact ⟨_,(true),jE,H',⟨jBt⟩,⟨jBu⟩,⟨jBv⟩,⟨jBw⟩,⟨jY⟩⟩
         rw [if_neg c24] at H;have c24b0 : decide (4<(((rd_T60 l0_0 x4_2).f1).length : Int))=false:=decide_eq_false c24;have c24b1 : decide (4<((rd_T60 l0_0 x4_2).f1).length)=false:=decide_eq_false jD;clear c24;(first|rw [c24b0]|(simp only [zG,zH];rw [c24b0])|skip)
         by_cases c30 : (((rd_T60 l0_0 x4_2).f1).length : Int)=0
         ·
          rw [if_pos c30] at H
          have c30b0 : ((((rd_T60 l0_0 x4_2).f1).length : Int) == 0)=true:=ya.mpr c30;have c30b1 : ((((rd_T60 l0_0 x4_2).f1).length : Int) != 0)=false:=zX.mpr c30;clear c30;have H':=zh H;clear H;have hnb31:=NB363_358.out;have hnc31:=NB358_363.out;have hnb32:=NB363_361.out;have hnc32:=NB361_363.out;obtain ⟨hcz33_0,hcz33_1,hfz33_0,hfz33_1⟩:=cB2 BK363.out;have hnb34:=NB358_361.out;have hnc34:=NB361_358.out;obtain ⟨hcz35_0,hcz35_1,hfz35_0,hfz35_1⟩:=cB2 BK358.out
          go_wp2_with (first|((with_reducible refine zJ (f:=49) rfl ?_);refine yj (some 37) rfl rfl Try.func49 jA rfl #[.int .i64 ((rd_T60 l0_0 x4_2).f0),.int .i64 1,.int .i64 (wrap64 (a0_1 - 1))] rfl jF ?_;(with_reducible refine (F03.calls  ((rd_T60 l0_0 x4_2).f0) 1 (wrap64 (a0_1 - 1)) true _ A22.out).mono ?_);rintro e w' ⟨rfl,⟨nd,rfl⟩⟩;refine ⟨_,rfl,?_⟩))
          go_meet
          case rel=>exact ⟨_,(decide ((l0_0.length : Int) > 1)),jE,H',⟨jBt⟩,⟨jBu⟩,⟨jBv⟩,⟨jBw⟩,⟨jY⟩⟩
         rw [if_neg c30] at H;have c30b0 : ((((rd_T60 l0_0 x4_2).f1).length : Int) == 0)=false:=zY.mpr c30;have c30b1 : ((((rd_T60 l0_0 x4_2).f1).length : Int) != 0)=true:=zZ.mpr c30;have c30b2 : ¬ (((rd_T60 l0_0 x4_2).f1)=[]):=fun h_=>c30 (by rw [h_];rfl);have H':=zh H;clear H;have hnb36:=NB363_358.out;have hnc36:=NB358_363.out;have hnb37:=NB363_361.out;have hnc37:=NB361_363.out;obtain ⟨hcz38_0,hcz38_1,hfz38_0,hfz38_1⟩:=cB2 BK363.out;have hnb39:=NB358_361.out;have hnc39:=NB361_358.out;obtain ⟨hcz40_0,hcz40_1,hfz40_0,hfz40_1⟩:=cB2 BK358.out
         go_wp2_with (first|((with_reducible refine zJ (f:=49) rfl ?_);refine yj (some 37) rfl rfl Try.func49 jA rfl #[.int .i64 ((rd_T60 l0_0 x4_2).f0),.int .i64 1,.int .i64 (wrap64 (a0_1 - 1))] rfl jF ?_;(with_reducible refine (F03.calls  ((rd_T60 l0_0 x4_2).f0) 1 (wrap64 (a0_1 - 1)) true _ A22.out).mono ?_);rintro e w' ⟨rfl,⟨nd,rfl⟩⟩;refine ⟨_,rfl,?_⟩))
         go_meet
         case rel=>exact ⟨_,(false),jE,H',⟨jBt⟩,⟨jBu⟩,⟨jBv⟩,⟨jBw⟩,⟨jY⟩⟩
        replace c23:=yb.mpr c23;subst c23;rw [if_neg (show ¬ (false=true) by decide)] at H;have H':=zh H;clear H;have hnb41:=NB363_358.out;have hnc41:=NB358_363.out;have hnb42:=NB363_361.out;have hnc42:=NB361_363.out;obtain ⟨hcz43_0,hcz43_1,hfz43_0,hfz43_1⟩:=cB2 BK363.out;have hnb44:=NB358_361.out;have hnc44:=NB361_358.out;obtain ⟨hcz45_0,hcz45_1,hfz45_0,hfz45_1⟩:=cB2 BK358.out
        go_wp2_with (first|((with_reducible refine zJ (f:=49) rfl ?_);refine yj (some 37) rfl rfl Try.func49 jA rfl #[.int .i64 ((rd_T60 l0_0 x4_2).f0),.int .i64 1,.int .i64 (wrap64 (a0_1 - 1))] rfl jF ?_;(with_reducible refine (F03.calls  ((rd_T60 l0_0 x4_2).f0) 1 (wrap64 (a0_1 - 1)) false _ A22.out).mono ?_);rintro e w' ⟨rfl,⟨nd,rfl⟩⟩;refine ⟨_,rfl,?_⟩))
        go_meet
        case rel=>exact ⟨_,(true),jE,H',⟨jBt⟩,⟨jBu⟩,⟨jBv⟩,⟨jBw⟩,⟨jY⟩⟩
       case rest =>
        clear HC15
        try clear c1 c2
        try clear p2
        try clear c3
        try clear p3
        try clear q3
        try clear hx3
        try clear c4 c5
        try clear p6
        try clear c9 c11 c13 c13b0 c14 c14b0 c16 c19 c20 c23 c24 c24b0 c24b1 c25 c26 c28 c29 c30 c30b0 c30b1 c30b2 c31 c32 c34 c36
        try clear p36
        try clear q36
        try clear hx36
        try clear c37 c39 c41 c42 c44
        try clear hcz12_0 hcz12_1
        try clear hcz17_0 hcz17_1
        try clear hcz21_0 hcz21_1
        try clear hcz27_0 hcz27_1
        try clear hcz29_0 hcz29_1
        try clear hcz33_0 hcz33_1
        try clear hcz35_0 hcz35_1
        try clear hcz38_0 hcz38_1
        try clear hcz40_0 hcz40_1
        try clear hcz43_0 hcz43_1
        try clear hcz45_0 hcz45_1
        try clear hcz7_0 hcz7_1
        try clear hcz8_0 hcz8_1
        try clear hfz12_0 hfz12_1
        try clear hfz17_0 hfz17_1
        try clear hfz21_0 hfz21_1
        try clear hfz27_0 hfz27_1
        try clear hfz29_0 hfz29_1
        try clear hfz33_0 hfz33_1
        try clear hfz35_0 hfz35_1
        try clear hfz38_0 hfz38_1
        try clear hfz40_0 hfz40_1
        try clear hfz43_0 hfz43_1
        try clear hfz45_0 hfz45_1
        try clear hfz7_0 hfz7_1
        try clear hfz8_0 hfz8_1
        try clear hx362_0
        try clear hx362_1
        try clear p2
        try clear p362
        try clear q362
        obtain ⟨kq,x56_14,rfl,HA,HJ14,BK358,BK361,BK363,HB⟩:=hcut
        cases kq with
        | zero=>exact absurd HA.out (by simp [F4.j2])
        | succ kj14 =>
         have H:=HA.out;clear HA;simp only [F4.j2] at H
         by_cases c46 : x56_14=true
         ·
          subst c46
          rw [if_pos rfl] at H;obtain rfl:=zU H
          go_wp2
          go_ret
          exact ⟨jG,jY⟩
         replace c46:=yb.mpr c46;subst c46;rw [if_neg (show ¬ (false=true) by decide)] at H;have H':=zh H;clear H
         go_wp2
         go_loopg [6] kj14 (fun kq v6 w' => ∃ (x6_4 : Int),v6 = .int .i64 x6_4∧Aside0 (F4.l1 kq x4_2 x6_4 l0_0 a0_1 x362000_2 x362001_2 ((rd_T60 l0_0 x4_2).f0) ((rd_T60 l0_0 x4_2).f1)=some r)∧Aside0 (kq≤kj14)∧Aside0 (w'.heap[gb358]? = some (.cells #[(.slice (some ad362) l0_0.length c0_0),.int .i64 a0_1] 25 (0,0)))∧Aside0 (w'.heap[gb361]? = some (.cells #[.string x362000_2,.int .i64 x362001_2] 28 (0,0)))∧Aside0 (w'.heap[gb363]? = some (.cells #[.int .i64 ((rd_T60 l0_0 x4_2).f0),(.slice A362_1 ((rd_T60 l0_0 x4_2).f1).length c362_1)] 60 (0,0)))∧Aside0 (Below w.heap.size w w'))
         case atStart=>exact ⟨(0),jE,H',⟨ye _⟩,⟨jm⟩,⟨jAE⟩,⟨jAh⟩,⟨jY⟩⟩
         case round =>
          clear H'
          try clear c1 c2
          try clear p2
          try clear c3
          try clear p3
          try clear q3
          try clear hx3
          try clear c4 c5
          try clear p6
          try clear c9 c11 c13 c13b0 c14 c14b0 c16 c19 c20 c23 c24 c24b0 c24b1 c25 c26 c28 c29 c30 c30b0 c30b1 c30b2 c31 c32 c34 c36
          try clear p36
          try clear q36
          try clear hx36
          try clear c37 c39 c41 c42 c44 c46
          try clear hcz12_0 hcz12_1
          try clear hcz17_0 hcz17_1
          try clear hcz21_0 hcz21_1
          try clear hcz27_0 hcz27_1
          try clear hcz29_0 hcz29_1
          try clear hcz33_0 hcz33_1
          try clear hcz35_0 hcz35_1
          try clear hcz38_0 hcz38_1
          try clear hcz40_0 hcz40_1
          try clear hcz43_0 hcz43_1
          try clear hcz45_0 hcz45_1
          try clear hcz7_0 hcz7_1
          try clear hcz8_0 hcz8_1
          try clear hfz12_0 hfz12_1
          try clear hfz17_0 hfz17_1
          try clear hfz21_0 hfz21_1
          try clear hfz27_0 hfz27_1
          try clear hfz29_0 hfz29_1
          try clear hfz33_0 hfz33_1
          try clear hfz35_0 hfz35_1
          try clear hfz38_0 hfz38_1
          try clear hfz40_0 hfz40_1
          try clear hfz43_0 hfz43_1
          try clear hfz45_0 hfz45_1
          try clear hfz7_0 hfz7_1
          try clear hfz8_0 hfz8_1
          try clear hx362_0
          try clear hx362_1
          try clear p2
          try clear p3
          try clear p36
          try clear p362
          try clear p6
          try clear q3
          try clear q36
          try clear q362
          obtain ⟨x6_4,rfl,HA,HK4,BK358,BK361,BK363,HB⟩:=hrel
          cases gk with
          | zero=>exact absurd HA.out (by simp [F4.l1])
          | succ k4 =>
           have H:=HA.out;clear HA;simp only [F4.l1] at H
           by_cases c47 : x6_4<x4_2
           ·
            rw [if_pos c47] at H
            have c47b0 : decide (x6_4<x4_2)=true:=decide_eq_true c47;clear c47
            by_cases c48 : 0≤x6_4
            ·
             rw [if_pos c48] at H
             have c48b0 : decide (0≤x6_4)=true:=decide_eq_true c48;clear c48
             by_cases c49 : x6_4<(l0_0.length : Int)
             ·
              rw [if_pos c49] at H
              have c49b0 : decide (x6_4<(l0_0.length : Int))=true:=decide_eq_true c49;clear c49
              by_cases c50 : ((rd_T60 l0_0 x6_4).f0)=((rd_T60 l0_0 x4_2).f0)
              ·
               rw [if_pos c50] at H
               have c50b0 : (((rd_T60 l0_0 x6_4).f0) == ((rd_T60 l0_0 x4_2).f0))=true:=ya.mpr c50;have c50b1 : (((rd_T60 l0_0 x6_4).f0) != ((rd_T60 l0_0 x4_2).f0))=false:=zX.mpr c50;clear c50;obtain rfl:=zU H
               try go_wp2
               replace BK358:=zh (zf BK358.out);replace BK361:=zh (zf BK361.out);replace BK363:=zh (zf BK363.out);replace HB:=zh (zc HB.out);have p365 : 0≤(x6_4 : Int):=zy jC;have q365 : x6_4<(l0_0.length : Int):=zy jC;obtain ⟨ad365,A365_1,c365_1,e365,hx365_0,hx365_1,hl365_1,hi365_1⟩:=at_T60 HR0_0.out x6_4 p365 q365;have hw365_1:=hx365_1;have hw365_0:=hx365_0;obtain rfl : ad362=ad365:=(by injection e365);replace hx365_0:=(HB.out.cell (zl w _ hx365_0)).trans hx365_0;replace hx365_1:=(HB.out.cell (zl w _ hx365_1)).trans hx365_1;have HR365_1:=zh hi365_1;have HC365_1:=zh hl365_1;clear hi365_1 hl365_1;replace p365:=eq_true p365;replace q365:=eq_true q365;refine start_ (n:=9) (S:=fun w' => w'.cell? ⟨gb358,0,none⟩=some (.slice (some ad362) l0_0.length c0_0)∧w'.cell? ⟨gb358,1,none⟩=some (.int .i64 a0_1)∧w'.cell? ⟨gb363,0,none⟩=some (.int .i64 ((rd_T60 l0_0 x4_2).f0))∧w'.cell? ⟨gb363,1,none⟩=some (.slice A362_1 ((rd_T60 l0_0 x4_2).f1).length c362_1)∧w'.cell? (ad362.add ((x6_4).toNat*2))=some (.int .i64 ((rd_T60 l0_0 x6_4).f0))∧w'.cell? ⟨(ad362.add ((x6_4).toNat*2)).block,(ad362.add ((x6_4).toNat*2)).off+1,none⟩=some (.slice A365_1 ((rd_T60 l0_0 x6_4).f1).length c365_1)) (ds:=[]) (bm_ 0 9) jA rfl rfl ⟨(zz BK358.out 0).trans rfl,(zz BK358.out 1).trans rfl,(zz BK363.out 0).trans rfl,(zz BK363.out 1).trans rfl,((HB.out.cell (zl w _ hw365_0)).trans hw365_0),((HB.out.cell (zl w _ hw365_1)).trans hw365_1)⟩ (fun hHeld=>?_);refine with_tabW F4.tab13 F4.bits13 (fun HT_ HW_=>?_);generalize wr.drew=w51 at BK358 BK361 BK363 HB HR365_1 hx365_0 hx365_1 hHeld ⊢;refine pure_ (i:=0) (N:=some 62) (v:=?_) (a':=?_) (bm_ 1 9) rfl rfl (any_of HT_.out jA) (fun _ _ _ h=>h) (Or.inl ⟨by rfl,?_⟩) ?_ ?_;rotate_left;exact jb;rotate_left;exact jc
               refine pure_ (i:=2) (N:=some 64) (v:=?_) (a':=?_) #[true,false,true,false,false,false,false,false,false] rfl rfl (any_of HT_.out jA) (fun _ _ _ h=>h) (Or.inl ⟨by rfl,?_⟩) ?_ ?_;rotate_left;exact jb;rotate_left;exact jc
               refine pure_ (i:=6) (N:=some 68) (v:=?_) (a':=?_) #[true,false,true,false,false,false,true,false,false] rfl rfl (any_of HT_.out jA) (fun _ _ _ h=>h) (Or.inl ⟨by rfl,?_⟩) ?_ ?_;rotate_left;exact jb;rotate_left;exact jc
               refine take_ (i:=1) (N:=some 63) (v:=?_) (a':=?_) #[true,true,true,false,false,false,true,false,false] rfl rfl (yo HT_.out HW_.out jA) (fun _ _ _ h=>h) (Or.inl ⟨by rfl,?_⟩) hHeld ?_ ?_;rotate_left
               ·
                rintro w' ⟨s0,s1,s2,s3,s4,s5⟩
                go_simp
                with_reducible rfl
               rotate_left
               exact jc
               refine pure_ (i:=3) (N:=some 65) (v:=?_) (a':=?_) #[true,true,true,true,false,false,true,false,false] rfl rfl (any_of HT_.out jA) (fun _ _ _ h=>h) (Or.inl ⟨by rfl,?_⟩) ?_ ?_;rotate_left;exact jb;rotate_left;exact jc
               refine pure_ (i:=4) (N:=some 66) (v:=?_) (a':=?_) #[true,true,true,true,true,false,true,false,false] rfl rfl (any_of HT_.out jA) (fun _ _ _ h=>h) (Or.inl ⟨by rfl,?_⟩) ?_ ?_;rotate_left;exact jb;rotate_left;exact jc
               refine take_ (i:=5) (N:=some 67) (v:=?_) (a':=?_) (bm_ 7 9) rfl rfl (yo HT_.out HW_.out jA) (fun _ _ _ h=>h) (Or.inl ⟨by rfl,?_⟩) hHeld ?_ ?_;rotate_left
               ·
                rintro w' ⟨s0,s1,s2,s3,s4,s5⟩
                go_simp
                with_reducible rfl
               rotate_left
               exact jc
               refine take_ (i:=7) (N:=some 69) (v:=?_) (a':=?_) (bm_ 8 9) rfl rfl (yo HT_.out HW_.out jA) (fun _ _ _ h=>h) (Or.inl ⟨by rfl,?_⟩) hHeld ?_ ?_;rotate_left
               ·
                rintro w' ⟨s0,s1,s2,s3,s4,s5⟩
                go_simp
                with_reducible rfl
               rotate_left
               exact jc
               refine pure_ (i:=8) (N:=some 70) (v:=?_) (a':=?_) (bm_ 9 9) rfl rfl (any_of HT_.out jA) (fun _ _ _ h=>h) (Or.inl ⟨by rfl,?_⟩) ?_ ?_;rotate_left;exact jb;rotate_left;exact jc
               refine done_ (done_of HT_.out jA) ?_
               try go_wp2
               go_ret
               exact ⟨jG,jY⟩
              rw [if_neg c50] at H;have c50b0 : (((rd_T60 l0_0 x6_4).f0) == ((rd_T60 l0_0 x4_2).f0))=false:=zY.mpr c50;have c50b1 : (((rd_T60 l0_0 x6_4).f0) != ((rd_T60 l0_0 x4_2).f0))=true:=zZ.mpr c50;have H':=zh H;clear H
              try go_wp2
              replace BK358:=zh (zf BK358.out);replace BK361:=zh (zf BK361.out);replace BK363:=zh (zf BK363.out);replace HB:=zh (zc HB.out);have p365 : 0≤(x6_4 : Int):=zy jC;have q365 : x6_4<(l0_0.length : Int):=zy jC;obtain ⟨ad365,A365_1,c365_1,e365,hx365_0,hx365_1,hl365_1,hi365_1⟩:=at_T60 HR0_0.out x6_4 p365 q365;have hw365_1:=hx365_1;have hw365_0:=hx365_0;obtain rfl : ad362=ad365:=(by injection e365);replace hx365_0:=(HB.out.cell (zl w _ hx365_0)).trans hx365_0;replace hx365_1:=(HB.out.cell (zl w _ hx365_1)).trans hx365_1;have HR365_1:=zh hi365_1;have HC365_1:=zh hl365_1;clear hi365_1 hl365_1;replace p365:=eq_true p365;replace q365:=eq_true q365;refine start_ (n:=9) (S:=fun w' => w'.cell? ⟨gb358,0,none⟩=some (.slice (some ad362) l0_0.length c0_0)∧w'.cell? ⟨gb358,1,none⟩=some (.int .i64 a0_1)∧w'.cell? ⟨gb363,0,none⟩=some (.int .i64 ((rd_T60 l0_0 x4_2).f0))∧w'.cell? ⟨gb363,1,none⟩=some (.slice A362_1 ((rd_T60 l0_0 x4_2).f1).length c362_1)∧w'.cell? (ad362.add ((x6_4).toNat*2))=some (.int .i64 ((rd_T60 l0_0 x6_4).f0))∧w'.cell? ⟨(ad362.add ((x6_4).toNat*2)).block,(ad362.add ((x6_4).toNat*2)).off+1,none⟩=some (.slice A365_1 ((rd_T60 l0_0 x6_4).f1).length c365_1)) (ds:=[]) (bm_ 0 9) jA rfl rfl ⟨(zz BK358.out 0).trans rfl,(zz BK358.out 1).trans rfl,(zz BK363.out 0).trans rfl,(zz BK363.out 1).trans rfl,((HB.out.cell (zl w _ hw365_0)).trans hw365_0),((HB.out.cell (zl w _ hw365_1)).trans hw365_1)⟩ (fun hHeld=>?_);refine with_tabW F4.tab13 F4.bits13 (fun HT_ HW_=>?_);generalize wr.drew=w52 at BK358 BK361 BK363 HB HR365_1 hx365_0 hx365_1 hHeld ⊢;refine pure_ (i:=0) (N:=some 62) (v:=?_) (a':=?_) (bm_ 1 9) rfl rfl (any_of HT_.out jA) (fun _ _ _ h=>h) (Or.inl ⟨by rfl,?_⟩) ?_ ?_;rotate_left;exact jb;rotate_left;exact jc
              refine pure_ (i:=2) (N:=some 64) (v:=?_) (a':=?_) #[true,false,true,false,false,false,false,false,false] rfl rfl (any_of HT_.out jA) (fun _ _ _ h=>h) (Or.inl ⟨by rfl,?_⟩) ?_ ?_;rotate_left;exact jb;rotate_left;exact jc
              refine pure_ (i:=6) (N:=some 68) (v:=?_) (a':=?_) #[true,false,true,false,false,false,true,false,false] rfl rfl (any_of HT_.out jA) (fun _ _ _ h=>h) (Or.inl ⟨by rfl,?_⟩) ?_ ?_;rotate_left;exact jb;rotate_left;exact jc
              refine take_ (i:=1) (N:=some 63) (v:=?_) (a':=?_) #[true,true,true,false,false,false,true,false,false] rfl rfl (yo HT_.out HW_.out jA) (fun _ _ _ h=>h) (Or.inl ⟨by rfl,?_⟩) hHeld ?_ ?_;rotate_left
              ·
               rintro w' ⟨s0,s1,s2,s3,s4,s5⟩
               go_simp
               with_reducible rfl
              rotate_left
              exact jc
              refine pure_ (i:=3) (N:=some 65) (v:=?_) (a':=?_) #[true,true,true,true,false,false,true,false,false] rfl rfl (any_of HT_.out jA) (fun _ _ _ h=>h) (Or.inl ⟨by rfl,?_⟩) ?_ ?_;rotate_left;exact jb;rotate_left;exact jc
              refine pure_ (i:=4) (N:=some 66) (v:=?_) (a':=?_) #[true,true,true,true,true,false,true,false,false] rfl rfl (any_of HT_.out jA) (fun _ _ _ h=>h) (Or.inl ⟨by rfl,?_⟩) ?_ ?_;rotate_left;exact jb;rotate_left;exact jc
              refine take_ (i:=5) (N:=some 67) (v:=?_) (a':=?_) (bm_ 7 9) rfl rfl (yo HT_.out HW_.out jA) (fun _ _ _ h=>h) (Or.inl ⟨by rfl,?_⟩) hHeld ?_ ?_;rotate_left
              ·
               rintro w' ⟨s0,s1,s2,s3,s4,s5⟩
               go_simp
               with_reducible rfl
              rotate_left
              exact jc
              refine take_ (i:=7) (N:=some 69) (v:=?_) (a':=?_) (bm_ 8 9) rfl rfl (yo HT_.out HW_.out jA) (fun _ _ _ h=>h) (Or.inl ⟨by rfl,?_⟩) hHeld ?_ ?_;rotate_left
              ·
               rintro w' ⟨s0,s1,s2,s3,s4,s5⟩
               go_simp
               with_reducible rfl
              rotate_left
              exact jc
              refine pure_ (i:=8) (N:=some 70) (v:=?_) (a':=?_) (bm_ 9 9) rfl rfl (any_of HT_.out jA) (fun _ _ _ h=>h) (Or.inl ⟨by rfl,?_⟩) ?_ ?_;rotate_left;exact jb;rotate_left;exact jc
              refine done_ (done_of HT_.out jA) ?_
              try go_wp2
              go_roundg k4
              case measure=>have:=HJ1.out;have:=HK2.out;have:=HJ14.out;have:=HK4.out;omega
              case rel=>exact ⟨(wrap64 (x6_4+1)),jE,H',⟨by have:=HJ1.out;have:=HK2.out;have:=HJ14.out;have:=HK4.out;omega⟩,⟨jm⟩,⟨jAE⟩,⟨jAh⟩,⟨jY⟩⟩
             rw [if_neg c49] at H;exact absurd H (by simp)
            rw [if_neg c48] at H;exact absurd H (by simp)
           rw [if_neg c47] at H;have c47b0 : decide (x6_4<x4_2)=false:=decide_eq_false c47;clear c47;have H':=zh H;clear H
           go_wp2
           go_loopg [7] k4 (fun kq v7 w' => ∃ (x7_5 : Int) (x362000_5 : ByteArray) (x362001_5 : Int),v7 = .int .i64 x7_5∧Aside0 (F4.l2 kq x4_2 x7_5 l0_0 a0_1 x362000_5 x362001_5 ((rd_T60 l0_0 x4_2).f0) ((rd_T60 l0_0 x4_2).f1)=some r)∧Aside0 (kq≤k4)∧Aside0 (w'.heap[gb358]? = some (.cells #[(.slice (some ad362) l0_0.length c0_0),.int .i64 a0_1] 25 (0,0)))∧Aside0 (w'.heap[gb361]? = some (.cells #[.string x362000_5,.int .i64 x362001_5] 28 (0,0)))∧Aside0 (w'.heap[gb363]? = some (.cells #[.int .i64 ((rd_T60 l0_0 x4_2).f0),(.slice A362_1 ((rd_T60 l0_0 x4_2).f1).length c362_1)] 60 (0,0)))∧Aside0 (Below w.heap.size w w'))
           case atStart=>exact ⟨(0),(x362000_2),(x362001_2),jE,H',⟨ye _⟩,⟨jm⟩,⟨jAE⟩,⟨jAh⟩,⟨jY⟩⟩
           case round =>
            clear H'
            try clear c1 c2
            try clear p2
            try clear c3
            try clear p3
            try clear q3
            try clear hx3
            try clear c4 c5
            try clear p6
            try clear c9 c11 c13 c13b0 c14 c14b0 c16 c19 c20 c23 c24 c24b0 c24b1 c25 c26 c28 c29 c30 c30b0 c30b1 c30b2 c31 c32 c34 c36
            try clear p36
            try clear q36
            try clear hx36
            try clear c37 c39 c41 c42 c44 c46 c47 c47b0 c48 c48b0 c49 c49b0 c50 c50b0 c50b1
            try clear hcz12_0 hcz12_1
            try clear hcz17_0 hcz17_1
            try clear hcz21_0 hcz21_1
            try clear hcz27_0 hcz27_1
            try clear hcz29_0 hcz29_1
            try clear hcz33_0 hcz33_1
            try clear hcz35_0 hcz35_1
            try clear hcz38_0 hcz38_1
            try clear hcz40_0 hcz40_1
            try clear hcz43_0 hcz43_1
            try clear hcz45_0 hcz45_1
            try clear hcz7_0 hcz7_1
            try clear hcz8_0 hcz8_1
            try clear hfz12_0 hfz12_1
            try clear hfz17_0 hfz17_1
            try clear hfz21_0 hfz21_1
            try clear hfz27_0 hfz27_1
            try clear hfz29_0 hfz29_1
            try clear hfz33_0 hfz33_1
            try clear hfz35_0 hfz35_1
            try clear hfz38_0 hfz38_1
            try clear hfz40_0 hfz40_1
            try clear hfz43_0 hfz43_1
            try clear hfz45_0 hfz45_1
            try clear hfz7_0 hfz7_1
            try clear hfz8_0 hfz8_1
            try clear hx362_0
            try clear hx362_1
            try clear hx365_0
            try clear hx365_1
            try clear p2
            try clear p3
            try clear p36
            try clear p362
            try clear p365
            try clear p6
            try clear q3
            try clear q36
            try clear q362
            try clear q365
            obtain ⟨x7_5,x362000_5,x362001_5,rfl,HA,HK5,BK358,BK361,BK363,HB⟩:=hrel
            cases gk with
            | zero=>exact absurd HA.out (by simp [F4.l2])
            | succ k5 =>
             have H:=HA.out;clear HA;simp only [F4.l2] at H
             by_cases c53 : x7_5<(((rd_T60 l0_0 x4_2).f1).length : Int)
             ·
              rw [if_pos c53] at H
              have c53b0 : decide (x7_5<(((rd_T60 l0_0 x4_2).f1).length : Int))=true:=decide_eq_true c53;clear c53
              by_cases c54 : 0≤x7_5
              ·
               rw [if_pos c54] at H
               have c54b0 : decide (0≤x7_5)=true:=decide_eq_true c54;clear c54;replace H:=zT.mp H;obtain ⟨t367,A550,H⟩:=H;have A55:=zh A550;clear A550
               by_cases c56 : t367=true
               ·
                subst c56
                rw [if_pos rfl] at H;replace H:=zT.mp H;obtain ⟨t369,A570,H⟩:=H;have A57:=zh A570;clear A570
                by_cases c58 : t369=true
                ·
                 subst c58
                 rw [if_pos rfl] at H;have H':=zh H;clear H;have hnb59:=NB363_358.out;have hnc59:=NB358_363.out;have hnb60:=NB363_361.out;have hnc60:=NB361_363.out;obtain ⟨hcz61_0,hcz61_1,hfz61_0,hfz61_1⟩:=cB2 BK363.out
                 try go_wp2
                 replace BK358:=zh (zf BK358.out);replace BK361:=zh (zf BK361.out);replace BK363:=zh (zf BK363.out);replace HB:=zh (zc HB.out);have p366 : 0≤(x7_5 : Int):=zy jC;have q366 : x7_5<(((rd_T60 l0_0 x4_2).f1).length : Int):=zy jC;obtain ⟨ad366,e366,hx366_0,hx366_1⟩:=at_T28 HR362_1.out x7_5 p366 q366;have hw366_1:=hx366_1;have hw366_0:=hx366_0
                 cases e366
                 replace hx366_0:=(HB.out.cell (zl w _ hx366_0)).trans hx366_0;replace hx366_1:=(HB.out.cell (zl w _ hx366_1)).trans hx366_1;replace p366:=eq_true p366;replace q366:=eq_true q366;have p368 : 0≤(x7_5 : Int):=zy jC;have q368 : x7_5<(((rd_T60 l0_0 x4_2).f1).length : Int):=zy jC;obtain ⟨ad368,e368,hx368_0,hx368_1⟩:=at_T28 HR362_1.out x7_5 p368 q368;have hw368_1:=hx368_1;have hw368_0:=hx368_0;obtain rfl : ad366=ad368:=(by injection e368);replace hx368_0:=(HB.out.cell (zl w _ hx368_0)).trans hx368_0;replace hx368_1:=(HB.out.cell (zl w _ hx368_1)).trans hx368_1;replace p368:=eq_true p368;replace q368:=eq_true q368;refine start_ (n:=17) (S:=fun w' => w'.cell? ⟨gb363,0,none⟩=some (.int .i64 ((rd_T60 l0_0 x4_2).f0))∧w'.cell? ⟨gb363,1,none⟩=some (.slice (some ad366) ((rd_T60 l0_0 x4_2).f1).length c362_1)∧w'.cell? ⟨gb361,0,none⟩=some (.string x362000_5)∧w'.cell? ⟨gb361,1,none⟩=some (.int .i64 x362001_5)∧w'.cell? (ad366.add ((x7_5).toNat*2))=some (.string ((rd_T28 ((rd_T60 l0_0 x4_2).f1) x7_5).f0))∧w'.cell? ⟨(ad366.add ((x7_5).toNat*2)).block,(ad366.add ((x7_5).toNat*2)).off+1,none⟩=some (.int .i64 ((rd_T28 ((rd_T60 l0_0 x4_2).f1) x7_5).f1))∧w'.cell? (ad366.add ((x7_5).toNat*2))=some (.string ((rd_T28 ((rd_T60 l0_0 x4_2).f1) x7_5).f0))∧w'.cell? ⟨(ad366.add ((x7_5).toNat*2)).block,(ad366.add ((x7_5).toNat*2)).off+1,none⟩=some (.int .i64 ((rd_T28 ((rd_T60 l0_0 x4_2).f1) x7_5).f1))) (ds:=[]) (bm_ 0 17) jA rfl rfl ⟨(zz BK363.out 0).trans rfl,(zz BK363.out 1).trans rfl,(zz BK361.out 0).trans rfl,(zz BK361.out 1).trans rfl,((HB.out.cell (zl w _ hw366_0)).trans hw366_0),((HB.out.cell (zl w _ hw366_1)).trans hw366_1),((HB.out.cell (zl w _ hw368_0)).trans hw368_0),((HB.out.cell (zl w _ hw368_1)).trans hw368_1)⟩ (fun hHeld=>?_);refine with_tabW F4.tab18 F4.bits18 (fun HT_ HW_=>?_);generalize wr.drew=w62 at BK358 BK361 BK363 HB hx366_0 hx366_1 hx368_0 hx368_1 hHeld ⊢;refine pure_ (i:=0) (N:=some 78) (v:=?_) (a':=?_) (bm_ 1 17) rfl rfl (any_of HT_.out jA) (fun _ _ _ h=>h) (Or.inl ⟨by rfl,?_⟩) ?_ ?_;rotate_left;exact jb;rotate_left;exact jc
                 refine pure_ (i:=2) (N:=some 80) (v:=?_) (a':=?_) #[true,false,true,false,false,false,false,false,false,false,false,false,false,false,false,false,false] rfl rfl (any_of HT_.out jA) (fun _ _ _ h=>h) (Or.inl ⟨by rfl,?_⟩) ?_ ?_;rotate_left;exact jb;rotate_left;exact jc
                 refine take_ (i:=1) (N:=some 79) (v:=?_) (a':=?_) (bm_ 3 17) rfl rfl (yo HT_.out HW_.out jA) (fun _ _ _ h=>h) (Or.inl ⟨by rfl,?_⟩) hHeld ?_ ?_;rotate_left
                 ·
                  rintro w' ⟨s0,s1,s2,s3,s4,s5,s6,s7⟩
                  go_simp
                  with_reducible rfl
                 rotate_left
                 exact jc
                 refine pure_ (i:=3) (N:=some 81) (v:=?_) (a':=?_) (bm_ 4 17) rfl rfl (any_of HT_.out jA) (fun _ _ _ h=>h) (Or.inl ⟨by rfl,?_⟩) ?_ ?_;rotate_left;exact jb;rotate_left;exact jc
                 refine take_ (i:=4) (N:=some 82) (v:=?_) (a':=?_) (bm_ 5 17) rfl rfl (yo HT_.out HW_.out jA) (fun _ _ _ h=>h) (Or.inl ⟨by rfl,?_⟩) hHeld ?_ ?_;rotate_left
                 ·
                  rintro w' ⟨s0,s1,s2,s3,s4,s5,s6,s7⟩
                  go_simp
                  with_reducible rfl
                 rotate_left
                 exact jc
                 refine one_ (i:=5) (N:=some 83) (bm_ 6 17) rfl rfl (one_of HT_.out jA) jB (fun K hK=>?_);refine goes_ Try.func35 jA rfl #[.agg #[.string ((rd_T28 ((rd_T60 l0_0 x4_2).f1) x7_5).f0),.int .i64 ((rd_T28 ((rd_T60 l0_0 x4_2).f1) x7_5).f1)]] (by rfl) rfl rfl jF ?_
                 with_reducible refine (F07.calls  ((rd_T28 ((rd_T60 l0_0 x4_2).f1) x7_5).f0) ((rd_T28 ((rd_T60 l0_0 x4_2).f1) x7_5).f1) true _ A55.out).mono ?_
                 rintro e w63 ⟨rfl,hb⟩;refine ⟨_,rfl,?_⟩;replace BK358:=zh (cD BK358.out jm hb);replace BK361:=zh (cD BK361.out jAE hb);replace BK363:=zh (cD BK363.out jAh hb);replace HB:=zh (zC jY hb);(try clear hb);(try clear hb2);(try clear hk);(try clear hi);refine hK.out _ _ ⟨(zz BK363.out 0).trans rfl,(zz BK363.out 1).trans rfl,(zz BK361.out 0).trans rfl,(zz BK361.out 1).trans rfl,((HB.out.cell (zl w _ hw366_0)).trans hw366_0),((HB.out.cell (zl w _ hw366_1)).trans hw366_1),((HB.out.cell (zl w _ hw368_0)).trans hw368_0),((HB.out.cell (zl w _ hw368_1)).trans hw368_1)⟩ (fun hHeld=>?_);clear hK K;refine norm_ (a':=?_) ?_ ?_;rotate_left
                 ·
                  show Act.put _ (some 83) _=_
                  simp only [Act.put,zi,zj,zk,zG,zH]
                  rfl
                 refine pure_ (i:=6) (N:=some 84) (v:=?_) (a':=?_) (bm_ 7 17) rfl rfl (any_of HT_.out jA) (fun _ _ _ h=>h) (Or.inl ⟨by rfl,?_⟩) ?_ ?_;rotate_left;exact jb;rotate_left;exact jc
                 refine pure_ (i:=7) (N:=some 85) (v:=?_) (a':=?_) (bm_ 8 17) rfl rfl (any_of HT_.out jA) (fun _ _ _ h=>h) (Or.inl ⟨by rfl,?_⟩) ?_ ?_;rotate_left;exact jb;rotate_left;exact jc
                 refine pure_ (i:=9) (N:=some 87) (v:=?_) (a':=?_) #[true,true,true,true,true,true,true,true,false,true,false,false,false,false,false,false,false] rfl rfl (any_of HT_.out jA) (fun _ _ _ h=>h) (Or.inl ⟨by rfl,?_⟩) ?_ ?_;rotate_left;exact jb;rotate_left;exact jc
                 refine pure_ (i:=11) (N:=some 89) (v:=?_) (a':=?_) #[true,true,true,true,true,true,true,true,false,true,false,true,false,false,false,false,false] rfl rfl (any_of HT_.out jA) (fun _ _ _ h=>h) (Or.inl ⟨by rfl,?_⟩) ?_ ?_;rotate_left;exact jb;rotate_left;exact jc
                 refine take_ (i:=8) (N:=some 86) (v:=?_) (a':=?_) #[true,true,true,true,true,true,true,true,true,true,false,true,false,false,false,false,false] rfl rfl (yo HT_.out HW_.out jA) (fun _ _ _ h=>h) (Or.inl ⟨by rfl,?_⟩) hHeld ?_ ?_;rotate_left
                 ·
                  rintro w' ⟨s0,s1,s2,s3,s4,s5,s6,s7⟩
                  go_simp
                  with_reducible rfl
                 rotate_left
                 exact jc
                 refine take_ (i:=10) (N:=some 88) (v:=?_) (a':=?_) (bm_ 12 17) rfl rfl (yo HT_.out HW_.out jA) (fun _ _ _ h=>h) (Or.inl ⟨by rfl,?_⟩) hHeld ?_ ?_;rotate_left
                 ·
                  rintro w' ⟨s0,s1,s2,s3,s4,s5,s6,s7⟩
                  go_simp
                  with_reducible rfl
                 rotate_left
                 exact jc
                 refine pure_ (i:=12) (N:=some 90) (v:=?_) (a':=?_) (bm_ 13 17) rfl rfl (any_of HT_.out jA) (fun _ _ _ h=>h) (Or.inl ⟨by rfl,?_⟩) ?_ ?_;rotate_left;exact jb;rotate_left;exact jc
                 refine take_ (i:=13) (N:=some 91) (v:=?_) (a':=?_) (bm_ 14 17) rfl rfl (yo HT_.out HW_.out jA) (fun _ _ _ h=>h) (Or.inl ⟨by rfl,?_⟩) hHeld ?_ ?_;rotate_left
                 ·
                  rintro w' ⟨s0,s1,s2,s3,s4,s5,s6,s7⟩
                  go_simp
                  with_reducible rfl
                 rotate_left
                 exact jc
                 refine one_ (i:=14) (N:=some 92) (bm_ 15 17) rfl rfl (one_of HT_.out jA) jB (fun K hK=>?_);refine goes_ Try.func50 jA rfl #[.agg #[.string x362000_5,.int .i64 x362001_5],.agg #[.string ((rd_T28 ((rd_T60 l0_0 x4_2).f1) x7_5).f0),.int .i64 ((rd_T28 ((rd_T60 l0_0 x4_2).f1) x7_5).f1)]] (by rfl) rfl rfl jF ?_
                 with_reducible refine (F0d.calls  x362000_5 x362001_5 ((rd_T28 ((rd_T60 l0_0 x4_2).f1) x7_5).f0) ((rd_T28 ((rd_T60 l0_0 x4_2).f1) x7_5).f1) true _ A57.out).mono ?_
                 rintro e w64 ⟨rfl,hb⟩;refine ⟨_,rfl,?_⟩;replace BK358:=zh (cD BK358.out jm hb);replace BK361:=zh (cD BK361.out jAE hb);replace BK363:=zh (cD BK363.out jAh hb);replace HB:=zh (zC jY hb);(try clear hb);(try clear hb2);(try clear hk);(try clear hi);refine hK.out _ _ ⟨(zz BK363.out 0).trans rfl,(zz BK363.out 1).trans rfl,(zz BK361.out 0).trans rfl,(zz BK361.out 1).trans rfl,((HB.out.cell (zl w _ hw366_0)).trans hw366_0),((HB.out.cell (zl w _ hw366_1)).trans hw366_1),((HB.out.cell (zl w _ hw368_0)).trans hw368_0),((HB.out.cell (zl w _ hw368_1)).trans hw368_1)⟩ (fun hHeld=>?_);clear hK K;refine norm_ (a':=?_) ?_ ?_;rotate_left
                 ·
                  show Act.put _ (some 92) _=_
                  simp only [Act.put,zi,zj,zk,zG,zH]
                  rfl
                 refine pure_ (i:=15) (N:=some 93) (v:=?_) (a':=?_) (bm_ 16 17) rfl rfl (any_of HT_.out jA) (fun _ _ _ h=>h) (Or.inl ⟨by rfl,?_⟩) ?_ ?_;rotate_left;exact jb;rotate_left;exact jc
                 refine pure_ (i:=16) (N:=some 94) (v:=?_) (a':=?_) (bm_ 17 17) rfl rfl (any_of HT_.out jA) (fun _ _ _ h=>h) (Or.inl ⟨by rfl,?_⟩) ?_ ?_;rotate_left;exact jb;rotate_left;exact jc
                 refine done_ (done_of HT_.out jA) ?_;obtain ⟨hcz65_0,hcz65_1,hfz65_0,hfz65_1⟩:=cB2 BK363.out;have p370 : 0≤(x7_5 : Int):=zy jC;have q370 : x7_5<(((rd_T60 l0_0 x4_2).f1).length : Int):=zy jC;obtain ⟨ad370,e370,hx370_0,hx370_1⟩:=at_T28 HR362_1.out x7_5 p370 q370;obtain rfl : ad366=ad370:=(by injection e370);replace hx370_0:=(HB.out.cell (zl w _ hx370_0)).trans hx370_0;replace hx370_1:=(HB.out.cell (zl w _ hx370_1)).trans hx370_1;replace p370:=eq_true p370;replace q370:=eq_true q370;have hnb66:=NB361_358.out;have hnc66:=NB358_361.out;obtain ⟨hcz67_0,hcz67_1,hfz67_0,hfz67_1⟩:=cB2 BK361.out
                 try go_wp2
                 go_roundg k5
                 case measure=>have:=HJ1.out;have:=HK2.out;have:=HJ14.out;have:=HK4.out;have:=HK5.out;omega
                 case rel=>exact ⟨(wrap64 (x7_5+1)),((rd_T28 ((rd_T60 l0_0 x4_2).f1) x7_5).f0),((rd_T28 ((rd_T60 l0_0 x4_2).f1) x7_5).f1),jE,H',⟨jDJ⟩,⟨jDI⟩,⟨by (with_reducible repeat first|apply ze|apply zf|apply zg);refine zL (cs:=#[.string ((rd_T28 ((rd_T60 l0_0 x4_2).f1) x7_5).f0),.int .i64 x362001_5]) ?_ 1 _ rfl;(with_reducible repeat first|apply ze|apply zf|apply zg);refine zL (cs:=#[.string x362000_5,.int .i64 x362001_5]) ?_ 0 _ rfl;(with_reducible repeat first|apply ze|apply zf|apply zg);exact BK361.out⟩,⟨by (with_reducible repeat first|apply ze|apply zf|apply zg);refine cS2 ?_ NB363_361.out;(with_reducible repeat first|apply ze|apply zf|apply zg);exact BK363.out⟩,⟨jY⟩⟩
                replace c58:=yb.mpr c58;subst c58;rw [if_neg (show ¬ (false=true) by decide)] at H;obtain rfl:=zU H;have hnb68:=NB363_358.out;have hnc68:=NB358_363.out;have hnb69:=NB363_361.out;have hnc69:=NB361_363.out;obtain ⟨hcz70_0,hcz70_1,hfz70_0,hfz70_1⟩:=cB2 BK363.out
                try go_wp2
                replace BK358:=zh (zf BK358.out);replace BK361:=zh (zf BK361.out);replace BK363:=zh (zf BK363.out);replace HB:=zh (zc HB.out);have p366 : 0≤(x7_5 : Int):=zy jC;have q366 : x7_5<(((rd_T60 l0_0 x4_2).f1).length : Int):=zy jC;obtain ⟨ad366,e366,hx366_0,hx366_1⟩:=at_T28 HR362_1.out x7_5 p366 q366;have hw366_1:=hx366_1;have hw366_0:=hx366_0
                cases e366
                replace hx366_0:=(HB.out.cell (zl w _ hx366_0)).trans hx366_0;replace hx366_1:=(HB.out.cell (zl w _ hx366_1)).trans hx366_1;replace p366:=eq_true p366;replace q366:=eq_true q366;have p368 : 0≤(x7_5 : Int):=zy jC;have q368 : x7_5<(((rd_T60 l0_0 x4_2).f1).length : Int):=zy jC;obtain ⟨ad368,e368,hx368_0,hx368_1⟩:=at_T28 HR362_1.out x7_5 p368 q368;have hw368_1:=hx368_1;have hw368_0:=hx368_0;obtain rfl : ad366=ad368:=(by injection e368);replace hx368_0:=(HB.out.cell (zl w _ hx368_0)).trans hx368_0;replace hx368_1:=(HB.out.cell (zl w _ hx368_1)).trans hx368_1;replace p368:=eq_true p368;replace q368:=eq_true q368;refine start_ (n:=17) (S:=fun w' => w'.cell? ⟨gb363,0,none⟩=some (.int .i64 ((rd_T60 l0_0 x4_2).f0))∧w'.cell? ⟨gb363,1,none⟩=some (.slice (some ad366) ((rd_T60 l0_0 x4_2).f1).length c362_1)∧w'.cell? ⟨gb361,0,none⟩=some (.string x362000_5)∧w'.cell? ⟨gb361,1,none⟩=some (.int .i64 x362001_5)∧w'.cell? (ad366.add ((x7_5).toNat*2))=some (.string ((rd_T28 ((rd_T60 l0_0 x4_2).f1) x7_5).f0))∧w'.cell? ⟨(ad366.add ((x7_5).toNat*2)).block,(ad366.add ((x7_5).toNat*2)).off+1,none⟩=some (.int .i64 ((rd_T28 ((rd_T60 l0_0 x4_2).f1) x7_5).f1))∧w'.cell? (ad366.add ((x7_5).toNat*2))=some (.string ((rd_T28 ((rd_T60 l0_0 x4_2).f1) x7_5).f0))∧w'.cell? ⟨(ad366.add ((x7_5).toNat*2)).block,(ad366.add ((x7_5).toNat*2)).off+1,none⟩=some (.int .i64 ((rd_T28 ((rd_T60 l0_0 x4_2).f1) x7_5).f1))) (ds:=[]) (bm_ 0 17) jA rfl rfl ⟨(zz BK363.out 0).trans rfl,(zz BK363.out 1).trans rfl,(zz BK361.out 0).trans rfl,(zz BK361.out 1).trans rfl,((HB.out.cell (zl w _ hw366_0)).trans hw366_0),((HB.out.cell (zl w _ hw366_1)).trans hw366_1),((HB.out.cell (zl w _ hw368_0)).trans hw368_0),((HB.out.cell (zl w _ hw368_1)).trans hw368_1)⟩ (fun hHeld=>?_);refine with_tabW F4.tab18 F4.bits18 (fun HT_ HW_=>?_);generalize wr.drew=w71 at BK358 BK361 BK363 HB hx366_0 hx366_1 hx368_0 hx368_1 hHeld ⊢;refine pure_ (i:=0) (N:=some 78) (v:=?_) (a':=?_) (bm_ 1 17) rfl rfl (any_of HT_.out jA) (fun _ _ _ h=>h) (Or.inl ⟨by rfl,?_⟩) ?_ ?_;rotate_left;exact jb;rotate_left;exact jc
                refine pure_ (i:=2) (N:=some 80) (v:=?_) (a':=?_) #[true,false,true,false,false,false,false,false,false,false,false,false,false,false,false,false,false] rfl rfl (any_of HT_.out jA) (fun _ _ _ h=>h) (Or.inl ⟨by rfl,?_⟩) ?_ ?_;rotate_left;exact jb;rotate_left;exact jc
                refine take_ (i:=1) (N:=some 79) (v:=?_) (a':=?_) (bm_ 3 17) rfl rfl (yo HT_.out HW_.out jA) (fun _ _ _ h=>h) (Or.inl ⟨by rfl,?_⟩) hHeld ?_ ?_;rotate_left
                ·
                 rintro w' ⟨s0,s1,s2,s3,s4,s5,s6,s7⟩
                 go_simp
                 with_reducible rfl
                rotate_left
                exact jc
                refine pure_ (i:=3) (N:=some 81) (v:=?_) (a':=?_) (bm_ 4 17) rfl rfl (any_of HT_.out jA) (fun _ _ _ h=>h) (Or.inl ⟨by rfl,?_⟩) ?_ ?_;rotate_left;exact jb;rotate_left;exact jc
                refine take_ (i:=4) (N:=some 82) (v:=?_) (a':=?_) (bm_ 5 17) rfl rfl (yo HT_.out HW_.out jA) (fun _ _ _ h=>h) (Or.inl ⟨by rfl,?_⟩) hHeld ?_ ?_;rotate_left
                ·
                 rintro w' ⟨s0,s1,s2,s3,s4,s5,s6,s7⟩
                 go_simp
                 with_reducible rfl
                rotate_left
                exact jc
                refine one_ (i:=5) (N:=some 83) (bm_ 6 17) rfl rfl (one_of HT_.out jA) jB (fun K hK=>?_);refine goes_ Try.func35 jA rfl #[.agg #[.string ((rd_T28 ((rd_T60 l0_0 x4_2).f1) x7_5).f0),.int .i64 ((rd_T28 ((rd_T60 l0_0 x4_2).f1) x7_5).f1)]] (by rfl) rfl rfl jF ?_
                with_reducible refine (F07.calls  ((rd_T28 ((rd_T60 l0_0 x4_2).f1) x7_5).f0) ((rd_T28 ((rd_T60 l0_0 x4_2).f1) x7_5).f1) true _ A55.out).mono ?_
                rintro e w72 ⟨rfl,hb⟩;refine ⟨_,rfl,?_⟩;replace BK358:=zh (cD BK358.out jm hb);replace BK361:=zh (cD BK361.out jAE hb);replace BK363:=zh (cD BK363.out jAh hb);replace HB:=zh (zC jY hb);(try clear hb);(try clear hb2);(try clear hk);(try clear hi);refine hK.out _ _ ⟨(zz BK363.out 0).trans rfl,(zz BK363.out 1).trans rfl,(zz BK361.out 0).trans rfl,(zz BK361.out 1).trans rfl,((HB.out.cell (zl w _ hw366_0)).trans hw366_0),((HB.out.cell (zl w _ hw366_1)).trans hw366_1),((HB.out.cell (zl w _ hw368_0)).trans hw368_0),((HB.out.cell (zl w _ hw368_1)).trans hw368_1)⟩ (fun hHeld=>?_);clear hK K;refine norm_ (a':=?_) ?_ ?_;rotate_left
                ·
                 show Act.put _ (some 83) _=_
                 simp only [Act.put,zi,zj,zk,zG,zH]
                 rfl
                refine pure_ (i:=6) (N:=some 84) (v:=?_) (a':=?_) (bm_ 7 17) rfl rfl (any_of HT_.out jA) (fun _ _ _ h=>h) (Or.inl ⟨by rfl,?_⟩) ?_ ?_;rotate_left;exact jb;rotate_left;exact jc
                refine pure_ (i:=7) (N:=some 85) (v:=?_) (a':=?_) (bm_ 8 17) rfl rfl (any_of HT_.out jA) (fun _ _ _ h=>h) (Or.inl ⟨by rfl,?_⟩) ?_ ?_;rotate_left;exact jb;rotate_left;exact jc
                refine pure_ (i:=9) (N:=some 87) (v:=?_) (a':=?_) #[true,true,true,true,true,true,true,true,false,true,false,false,false,false,false,false,false] rfl rfl (any_of HT_.out jA) (fun _ _ _ h=>h) (Or.inl ⟨by rfl,?_⟩) ?_ ?_;rotate_left;exact jb;rotate_left;exact jc
                refine pure_ (i:=11) (N:=some 89) (v:=?_) (a':=?_) #[true,true,true,true,true,true,true,true,false,true,false,true,false,false,false,false,false] rfl rfl (any_of HT_.out jA) (fun _ _ _ h=>h) (Or.inl ⟨by rfl,?_⟩) ?_ ?_;rotate_left;exact jb;rotate_left;exact jc
                refine take_ (i:=8) (N:=some 86) (v:=?_) (a':=?_) #[true,true,true,true,true,true,true,true,true,true,false,true,false,false,false,false,false] rfl rfl (yo HT_.out HW_.out jA) (fun _ _ _ h=>h) (Or.inl ⟨by rfl,?_⟩) hHeld ?_ ?_;rotate_left
                ·
                 rintro w' ⟨s0,s1,s2,s3,s4,s5,s6,s7⟩
                 go_simp
                 with_reducible rfl
                rotate_left
                exact jc
                refine take_ (i:=10) (N:=some 88) (v:=?_) (a':=?_) (bm_ 12 17) rfl rfl (yo HT_.out HW_.out jA) (fun _ _ _ h=>h) (Or.inl ⟨by rfl,?_⟩) hHeld ?_ ?_;rotate_left
                ·
                 rintro w' ⟨s0,s1,s2,s3,s4,s5,s6,s7⟩
                 go_simp
                 with_reducible rfl
                rotate_left
                exact jc
                refine pure_ (i:=12) (N:=some 90) (v:=?_) (a':=?_) (bm_ 13 17) rfl rfl (any_of HT_.out jA) (fun _ _ _ h=>h) (Or.inl ⟨by rfl,?_⟩) ?_ ?_;rotate_left;exact jb;rotate_left;exact jc
                refine take_ (i:=13) (N:=some 91) (v:=?_) (a':=?_) (bm_ 14 17) rfl rfl (yo HT_.out HW_.out jA) (fun _ _ _ h=>h) (Or.inl ⟨by rfl,?_⟩) hHeld ?_ ?_;rotate_left
                ·
                 rintro w' ⟨s0,s1,s2,s3,s4,s5,s6,s7⟩
                 go_simp
                 with_reducible rfl
                rotate_left
                exact jc
                refine one_ (i:=14) (N:=some 92) (bm_ 15 17) rfl rfl (one_of HT_.out jA) jB (fun K hK=>?_);refine goes_ Try.func50 jA rfl #[.agg #[.string x362000_5,.int .i64 x362001_5],.agg #[.string ((rd_T28 ((rd_T60 l0_0 x4_2).f1) x7_5).f0),.int .i64 ((rd_T28 ((rd_T60 l0_0 x4_2).f1) x7_5).f1)]] (by rfl) rfl rfl jF ?_
                with_reducible refine (F0d.calls  x362000_5 x362001_5 ((rd_T28 ((rd_T60 l0_0 x4_2).f1) x7_5).f0) ((rd_T28 ((rd_T60 l0_0 x4_2).f1) x7_5).f1) false _ A57.out).mono ?_
                rintro e w73 ⟨rfl,hb⟩;refine ⟨_,rfl,?_⟩;replace BK358:=zh (cD BK358.out jm hb);replace BK361:=zh (cD BK361.out jAE hb);replace BK363:=zh (cD BK363.out jAh hb);replace HB:=zh (zC jY hb);(try clear hb);(try clear hb2);(try clear hk);(try clear hi);refine hK.out _ _ ⟨(zz BK363.out 0).trans rfl,(zz BK363.out 1).trans rfl,(zz BK361.out 0).trans rfl,(zz BK361.out 1).trans rfl,((HB.out.cell (zl w _ hw366_0)).trans hw366_0),((HB.out.cell (zl w _ hw366_1)).trans hw366_1),((HB.out.cell (zl w _ hw368_0)).trans hw368_0),((HB.out.cell (zl w _ hw368_1)).trans hw368_1)⟩ (fun hHeld=>?_);clear hK K;refine norm_ (a':=?_) ?_ ?_;rotate_left
                ·
                 show Act.put _ (some 92) _=_
                 simp only [Act.put,zi,zj,zk,zG,zH]
                 rfl
                refine pure_ (i:=15) (N:=some 93) (v:=?_) (a':=?_) (bm_ 16 17) rfl rfl (any_of HT_.out jA) (fun _ _ _ h=>h) (Or.inl ⟨by rfl,?_⟩) ?_ ?_;rotate_left;exact jb;rotate_left;exact jc
                refine pure_ (i:=16) (N:=some 94) (v:=?_) (a':=?_) (bm_ 17 17) rfl rfl (any_of HT_.out jA) (fun _ _ _ h=>h) (Or.inl ⟨by rfl,?_⟩) ?_ ?_;rotate_left;exact jb;rotate_left;exact jc
                refine done_ (done_of HT_.out jA) ?_
                try go_wp2
                go_ret
                exact ⟨jG,jY⟩
               replace c56:=yb.mpr c56;subst c56;rw [if_neg (show ¬ (false=true) by decide)] at H;obtain rfl:=zU H;have hnb74:=NB363_358.out;have hnc74:=NB358_363.out;have hnb75:=NB363_361.out;have hnc75:=NB361_363.out;obtain ⟨hcz76_0,hcz76_1,hfz76_0,hfz76_1⟩:=cB2 BK363.out
               try go_wp2
               replace BK358:=zh (zf BK358.out);replace BK361:=zh (zf BK361.out);replace BK363:=zh (zf BK363.out);replace HB:=zh (zc HB.out);have p366 : 0≤(x7_5 : Int):=zy jC;have q366 : x7_5<(((rd_T60 l0_0 x4_2).f1).length : Int):=zy jC;obtain ⟨ad366,e366,hx366_0,hx366_1⟩:=at_T28 HR362_1.out x7_5 p366 q366;have hw366_1:=hx366_1;have hw366_0:=hx366_0
               cases e366
               replace hx366_0:=(HB.out.cell (zl w _ hx366_0)).trans hx366_0;replace hx366_1:=(HB.out.cell (zl w _ hx366_1)).trans hx366_1;replace p366:=eq_true p366;replace q366:=eq_true q366;refine start_ (n:=17) (S:=fun w' => w'.cell? ⟨gb363,0,none⟩=some (.int .i64 ((rd_T60 l0_0 x4_2).f0))∧w'.cell? ⟨gb363,1,none⟩=some (.slice (some ad366) ((rd_T60 l0_0 x4_2).f1).length c362_1)∧w'.cell? (ad366.add ((x7_5).toNat*2))=some (.string ((rd_T28 ((rd_T60 l0_0 x4_2).f1) x7_5).f0))∧w'.cell? ⟨(ad366.add ((x7_5).toNat*2)).block,(ad366.add ((x7_5).toNat*2)).off+1,none⟩=some (.int .i64 ((rd_T28 ((rd_T60 l0_0 x4_2).f1) x7_5).f1))) (ds:=[]) (bm_ 0 17) jA rfl rfl ⟨(zz BK363.out 0).trans rfl,(zz BK363.out 1).trans rfl,((HB.out.cell (zl w _ hw366_0)).trans hw366_0),((HB.out.cell (zl w _ hw366_1)).trans hw366_1)⟩ (fun hHeld=>?_);refine with_tabW F4.tab18 F4.bits18 (fun HT_ HW_=>?_);generalize wr.drew=w77 at BK358 BK361 BK363 HB hx366_0 hx366_1 hHeld ⊢;refine pure_ (i:=0) (N:=some 78) (v:=?_) (a':=?_) (bm_ 1 17) rfl rfl (any_of HT_.out jA) (fun _ _ _ h=>h) (Or.inl ⟨by rfl,?_⟩) ?_ ?_;rotate_left;exact jb;rotate_left;exact jc
               refine pure_ (i:=2) (N:=some 80) (v:=?_) (a':=?_) #[true,false,true,false,false,false,false,false,false,false,false,false,false,false,false,false,false] rfl rfl (any_of HT_.out jA) (fun _ _ _ h=>h) (Or.inl ⟨by rfl,?_⟩) ?_ ?_;rotate_left;exact jb;rotate_left;exact jc
               refine take_ (i:=1) (N:=some 79) (v:=?_) (a':=?_) (bm_ 3 17) rfl rfl (yo HT_.out HW_.out jA) (fun _ _ _ h=>h) (Or.inl ⟨by rfl,?_⟩) hHeld ?_ ?_;rotate_left
               ·
                rintro w' ⟨s0,s1,s2,s3⟩
                go_simp
                with_reducible rfl
               rotate_left
               exact jc
               refine pure_ (i:=3) (N:=some 81) (v:=?_) (a':=?_) (bm_ 4 17) rfl rfl (any_of HT_.out jA) (fun _ _ _ h=>h) (Or.inl ⟨by rfl,?_⟩) ?_ ?_;rotate_left;exact jb;rotate_left;exact jc
               refine take_ (i:=4) (N:=some 82) (v:=?_) (a':=?_) (bm_ 5 17) rfl rfl (yo HT_.out HW_.out jA) (fun _ _ _ h=>h) (Or.inl ⟨by rfl,?_⟩) hHeld ?_ ?_;rotate_left
               ·
                rintro w' ⟨s0,s1,s2,s3⟩
                go_simp
                with_reducible rfl
               rotate_left
               exact jc
               refine one_ (i:=5) (N:=some 83) (bm_ 6 17) rfl rfl (one_of HT_.out jA) jB (fun K hK=>?_);refine goes_ Try.func35 jA rfl #[.agg #[.string ((rd_T28 ((rd_T60 l0_0 x4_2).f1) x7_5).f0),.int .i64 ((rd_T28 ((rd_T60 l0_0 x4_2).f1) x7_5).f1)]] (by rfl) rfl rfl jF ?_
               with_reducible refine (F07.calls  ((rd_T28 ((rd_T60 l0_0 x4_2).f1) x7_5).f0) ((rd_T28 ((rd_T60 l0_0 x4_2).f1) x7_5).f1) false _ A55.out).mono ?_
               rintro e w78 ⟨rfl,hb⟩;refine ⟨_,rfl,?_⟩;replace BK358:=zh (cD BK358.out jm hb);replace BK361:=zh (cD BK361.out jAE hb);replace BK363:=zh (cD BK363.out jAh hb);replace HB:=zh (zC jY hb);(try clear hb);(try clear hb2);(try clear hk);(try clear hi);refine hK.out _ _ ⟨(zz BK363.out 0).trans rfl,(zz BK363.out 1).trans rfl,((HB.out.cell (zl w _ hw366_0)).trans hw366_0),((HB.out.cell (zl w _ hw366_1)).trans hw366_1)⟩ (fun hHeld=>?_);clear hK K;refine norm_ (a':=?_) ?_ ?_;rotate_left
               ·
                show Act.put _ (some 83) _=_
                simp only [Act.put,zi,zj,zk,zG,zH]
                rfl
               refine pure_ (i:=6) (N:=some 84) (v:=?_) (a':=?_) (bm_ 7 17) rfl rfl (any_of HT_.out jA) (fun _ _ _ h=>h) (Or.inl ⟨by rfl,?_⟩) ?_ ?_;rotate_left;exact jb;rotate_left;exact jc
               refine pure_ (i:=7) (N:=some 85) (v:=?_) (a':=?_) (bm_ 8 17) rfl rfl (any_of HT_.out jA) (fun _ _ _ h=>h) (Or.inl ⟨by rfl,?_⟩) ?_ ?_;rotate_left;exact jb;rotate_left;exact jc
               refine pure_ (i:=8) (N:=some 86) (v:=undef) (a':=?_) (bm_ 9 17) rfl rfl (any_of HT_.out jA) (fun _ _ _ h=>h) (Or.inr ⟨by rfl,rfl⟩) ?_ ?_;rotate_left
               exact jc
               refine pure_ (i:=9) (N:=some 87) (v:=undef) (a':=?_) (bm_ 10 17) rfl rfl (any_of HT_.out jA) (fun _ _ _ h=>h) (Or.inr ⟨by rfl,rfl⟩) ?_ ?_;rotate_left
               exact jc
               refine pure_ (i:=10) (N:=some 88) (v:=undef) (a':=?_) (bm_ 11 17) rfl rfl (any_of HT_.out jA) (fun _ _ _ h=>h) (Or.inr ⟨by rfl,rfl⟩) ?_ ?_;rotate_left
               exact jc
               refine pure_ (i:=11) (N:=some 89) (v:=undef) (a':=?_) (bm_ 12 17) rfl rfl (any_of HT_.out jA) (fun _ _ _ h=>h) (Or.inr ⟨by rfl,rfl⟩) ?_ ?_;rotate_left
               exact jc
               refine pure_ (i:=12) (N:=some 90) (v:=undef) (a':=?_) (bm_ 13 17) rfl rfl (any_of HT_.out jA) (fun _ _ _ h=>h) (Or.inr ⟨by rfl,rfl⟩) ?_ ?_;rotate_left
               exact jc
               refine pure_ (i:=13) (N:=some 91) (v:=undef) (a':=?_) (bm_ 14 17) rfl rfl (any_of HT_.out jA) (fun _ _ _ h=>h) (Or.inr ⟨by rfl,rfl⟩) ?_ ?_;rotate_left
               exact jc
               refine pure_ (i:=14) (N:=some 92) (v:=undef) (a':=?_) (bm_ 15 17) rfl rfl (any_of HT_.out jA) (fun _ _ _ h=>h) (Or.inr ⟨by rfl,rfl⟩) ?_ ?_;rotate_left
               exact jc
               refine pure_ (i:=15) (N:=some 93) (v:=undef) (a':=?_) (bm_ 16 17) rfl rfl (any_of HT_.out jA) (fun _ _ _ h=>h) (Or.inr ⟨by rfl,rfl⟩) ?_ ?_;rotate_left
               exact jc
               refine pure_ (i:=16) (N:=some 94) (v:=?_) (a':=?_) (bm_ 17 17) rfl rfl (any_of HT_.out jA) (fun _ _ _ h=>h) (Or.inl ⟨by rfl,?_⟩) ?_ ?_;rotate_left;exact jb;rotate_left;exact jc
               refine done_ (done_of HT_.out jA) ?_
               try go_wp2
               go_ret
               exact ⟨jG,jY⟩
              rw [if_neg c54] at H;exact absurd H (by simp)
             rw [if_neg c53] at H;have c53b0 : decide (x7_5<(((rd_T60 l0_0 x4_2).f1).length : Int))=false:=decide_eq_false c53;clear c53;have H':=zh H;clear H;have hnb79:=NB363_358.out;have hnc79:=NB358_363.out;have hnb80:=NB363_361.out;have hnc80:=NB361_363.out;obtain ⟨hcz81_0,hcz81_1,hfz81_0,hfz81_1⟩:=cB2 BK363.out
             go_wp2
             go_roundg k5
             case measure=>have:=HJ1.out;have:=HK2.out;have:=HJ14.out;have:=HK4.out;have:=HK5.out;omega
             case rel=>exact ⟨(wrap64 (x4_2+1)),(x362000_5),(x362001_5),jE,H',⟨jDJ⟩,⟨jm⟩,⟨jAE⟩,⟨jY⟩⟩
      rw [if_neg c14] at H;exact absurd H (by simp)
     rw [if_neg c13] at H;have c13b0 : decide (x4_2<(l0_0.length : Int))=false:=decide_eq_false c13;clear c13;obtain rfl:=zU H;have hnb82:=NB358_361.out;have hnc82:=NB361_358.out;obtain ⟨hcz83_0,hcz83_1,hfz83_0,hfz83_1⟩:=cB2 BK358.out
     go_wp2
     go_ret
     exact ⟨jG,jCM⟩

end Go.Proofs.Ytgifonogfgpjdaa.Q
end
section
namespace Go.Proofs.Ytgifonogfgpjdaa.Q
open Go.RowKit Go.Proofs.YtgifonogfgpjdaaW.PrintWords Go.Proofs.YtgifonogfgpjdaaW.PrintLast Go.Proofs.YtgifonogfgpjdaaW.PrintMore
attribute [local go_sem] max2_int min2_int max_two min_two max_three min_three max_four min_four max2_str min2_str str_geq str_gtr str_leq
set_option linter.unusedVariables false
set_option linter.unusedSimpArgs false

def Fj.j0 : Nat→Bool→List (S60)→Int→ByteArray→Int→Option ((List (S60))×Int×Int×Int)
 | 0,_,_,_,_,_=>none
 | k+1,x17,x503000,x503001,x504000,x504001=>if x17=true then (some (([] : List (S60)),0,0,1)) else ((F6.f k x503000 x503001 x504000 x504001).bind fun bt507=>((Fd.f k bt507.1 bt507.2.1).bind fun bt514=>(some (bt514.1,bt514.2,bt507.2.2.1,bt507.2.2.2))))
def Fj.f (k : Nat) (l0_0 : List (S60)) (a0_1 : Int) (a1_0 : ByteArray) (a1_1 : Int) : Option ((List (S60))×Int×Int×Int):=(F4.f k l0_0 a0_1).bind fun t505=>(if t505=true then ((F07.f a1_0 a1_1).bind fun t506=>(Fj.j0 k (!t506) l0_0 a0_1 a1_0 a1_1)) else (Fj.j0 k true l0_0 a0_1 a1_0 a1_1))
theorem Fj.mono_l : ∀ k,(∀ y0 y1 y2 y3 y4,LeO (Fj.j0 k y0 y1 y2 y3 y4) (Fj.j0 (k+1) y0 y1 y2 y3 y4))
 | 0=>fun _ _ _ _ _ r h=>by simp [Fj.j0] at h
 | k+1=>by
  have ih0:=Fj.mono_l k;intro y0 y1 y2 y3 y4;unfold Fj.j0
  repeat' first|(with_reducible first|exact ih0 _ _ _ _ _|exact F4.mono _ _ _|exact F6.mono _ _ _ _ _|exact Fd.mono _ _ _|exact zQ _|exact zN _|refine zP ?_ ?_|refine zO ?_ (fun _=>?_))|refine zP ?_ ?_|refine zO ?_ (fun _=>?_)
theorem Fj.mono : ∀ a0 a1 a2 a3 k,LeO (Fj.f k a0 a1 a2 a3) (Fj.f (k+1) a0 a1 a2 a3):=by
 intro a0 a1 a2 a3 k;have ih0:=Fj.mono_l k;unfold Fj.f
 repeat' first|(with_reducible first|exact ih0 _ _ _ _ _|exact F4.mono _ _ _|exact F6.mono _ _ _ _ _|exact Fd.mono _ _ _|exact zQ _|exact zN _|refine zP ?_ ?_|refine zO ?_ (fun _=>?_))|refine zP ?_ ?_|refine zO ?_ (fun _=>?_)
set_option maxHeartbeats 8000000 in
set_option maxRecDepth 100000 in
theorem Fj.calls (k : Nat) (A0_0 : Option Addr) (c0_0 : Nat) (l0_0 : List (S60)) (a0_1 : Int) (a1_0 : ByteArray) (a1_1 : Int) (r1 : List (S60)) (r2 : Int) (r3 : Int) (r4 : Int) (w : World) (hr0_0 : Kd.C k60 w A0_0 l0_0.length l0_0) (hc0_0 : l0_0.length≤c0_0) (h : Fj.f k l0_0 a0_1 a1_0 a1_1=some (r1,r2,r3,r4)) :
  Calls Try.prog 15 #[.agg #[.slice A0_0 l0_0.length c0_0,.int .i64 a0_1],.agg #[.string a1_0,.int .i64 a1_1]] w fun e w' => ∃ v0_ : Value,e = .returned (.tuple #[.agg #[v0_,.int .i64 r2],.int .i64 r3,.int .i64 r4])∧Kd.S k60 60 w' w.heap.size (fun _=>True) v0_ r1∧Below w.heap.size w w':=by
 have hu25:=Try.underlying25;have hu28:=Try.underlying28;have HR0_0:=zh hr0_0;have HC0_0:=zh hc0_0;clear hr0_0 hc0_0;have HB:=zh (Below.refl w.heap.size w);have H : ((F4.f k l0_0 a0_1).bind fun t505=>(if t505=true then ((F07.f a1_0 a1_1).bind fun t506=>(Fj.j0 k (!t506) l0_0 a0_1 a1_0 a1_1)) else (Fj.j0 k true l0_0 a0_1 a1_0 a1_1)))=some (r1,r2,r3,r4):=h;clear h;have HC3:=zh H;clear H
 go_enter Try.func15,Try.ntmps15
 go_upto_region 1 with (first|((with_reducible refine zK (N:=2) rfl ?_);refine zI ?hg (N:=2) ?hd (cs:=#[.slice A0_0 l0_0.length c0_0,.int .i64 a0_1]) (t:=25) ?hr ?_;(case hd=>rfl);(case hg=>rfl);(case hr=>go_simp <;> rfl);intro gb502 hg w4 hbox hb;have BK502:=zh (hbox);have hH_:=cH jH hb hg;have GW502:=zh hH_.1;have GE502:=GW502;replace HB:=zh hH_.2;clear hb hbox hg hH_)|((with_reducible refine zK (N:=3) rfl ?_);refine zI ?hg (N:=3) ?hd (cs:=#[.string a1_0,.int .i64 a1_1]) (t:=28) ?hr ?_;(case hd=>rfl);(case hg=>rfl);(case hr=>go_simp <;> rfl);intro gb503 hg w5 hbox hb;have BK503:=zh (hbox);have hH_:=cH (by repeat (with_reducible first|exact HB.out|apply za|apply zb|apply zc|refine zd ?_ GE502.out)) hb hg;have GW503:=zh hH_.1;have GE503:=GW503;replace HB:=zh hH_.2;have NB502_503:=zh ((jCN : gb502≠gb503));have NB503_502:=zh NB502_503.out.symm;replace BK502:=zh (cD BK502.out jAF hb);clear hb hbox hg hH_)|((with_reducible refine zK (N:=4) rfl ?_);refine zI ?hg (N:=4) ?hd (cs:=#[.slice none 0 0,.int .i64 0]) (t:=25) ?hr ?_;(case hd=>rfl);(case hg=>rfl);(case hr=>go_simp <;> rfl);intro gb504 hg w6 hbox hb;have BK504:=zh (hbox);have hH_:=cH (by repeat (with_reducible first|exact HB.out|apply za|apply zb|apply zc|refine zd ?_ GE502.out|refine zd ?_ GE503.out)) hb hg;have GW504:=zh hH_.1;have GE504:=GW504;replace HB:=zh hH_.2;have NB502_504:=zh ((jCN : gb502≠gb504));have NB504_502:=zh NB502_504.out.symm;replace BK502:=zh (cD BK502.out jAF hb);have NB503_504:=zh ((jDK : gb503≠gb504));have NB504_503:=zh NB503_504.out.symm;replace BK503:=zh (cD BK503.out jAO hb);clear hb hbox hg hH_))
 (try simp only [Act.put,zi,zj,zk])
 go_cut [17] (fun v17 wc => ∃ (kq : Nat) (x17_2 : Bool),v17 = .bool x17_2∧Aside0 (Fj.j0 kq x17_2 l0_0 a0_1 a1_0 a1_1=some (r1,r2,r3,r4))∧Aside0 (kq≤k)∧Aside0 (wc.heap[gb502]? = some (.cells #[(.slice A0_0 l0_0.length c0_0),.int .i64 a0_1] 25 (0,0)))∧Aside0 (wc.heap[gb503]? = some (.cells #[.string a1_0,.int .i64 a1_1] 28 (0,0)))∧Aside0 (wc.heap[gb504]? = some (.cells #[(.slice none 0 0),.int .i64 0] 25 (0,0)))∧Aside0 (Below w.heap.size w wc))
 case first =>
  have H:=HC3.out;clear HC3;replace H:=zT.mp H;obtain ⟨t505,A70,H⟩:=H;have A7:=zh A70;clear A70
  by_cases c8 : t505=true
  ·
   subst c8
   rw [if_pos rfl] at H;replace H:=zT.mp H;obtain ⟨t506,A90,H⟩:=H;have A9:=zh A90;clear A90;have H':=zh H;clear H;have hnb10:=NB502_503.out;have hnc10:=NB503_502.out;have hnb11:=NB502_504.out;have hnc11:=NB504_502.out;obtain ⟨hcz12_0,hcz12_1,hfz12_0,hfz12_1⟩:=cB2 BK502.out
   go_wp2_with (first|((with_reducible refine zJ (f:=29) rfl ?_);refine yj (some 11) rfl rfl Try.func29 jA rfl #[.agg #[.slice A0_0 l0_0.length c0_0,.int .i64 a0_1]] rfl jF ?_;(with_reducible refine (F4.calls k  _ _ l0_0 a0_1 true _ ?side1 ?side2 A7.out).mono ?_);(case side1=>repeat (first|exact (Kd.C_below HR0_0.out HB.out)|(with_reducible refine Kd.C_alloc ?_ _)|(with_reducible refine Kd.C_drewN ?_ _)|(with_reducible refine Kd.C_drew ?_)));(case side2=>exact HC0_0.out);rintro e w13 ⟨rfl,hb⟩;refine ⟨_,rfl,?_⟩;replace BK502:=zh (cD BK502.out jAF hb);replace BK503:=zh (cD BK503.out jAO hb);replace BK504:=zh (cD BK504.out jAU hb);replace HB:=zh (zC jAP hb);(try clear hb);(try clear hb2);(try clear hk);(try clear hi);have hnb14:=NB503_504.out;have hnc14:=NB504_503.out;obtain ⟨hcz15_0,hcz15_1,hfz15_0,hfz15_1⟩:=cB2 BK503.out)|(go_at_call 35;(with_reducible refine (F07.calls  a1_0 a1_1 t506 _ A9.out).mono ?_);rintro e w16 ⟨rfl,hb⟩;replace BK502:=zh (cD BK502.out jAF hb);replace BK503:=zh (cD BK503.out jAO hb);replace BK504:=zh (cD BK504.out jAU hb);replace HB:=zh (zC jAP hb);(try clear hb);(try clear hb2);(try clear hk);(try clear hi)))
   go_meet
   case rel=>exact ⟨_,(!t506),jE,H',⟨jAI⟩,⟨jAF⟩,⟨jAO⟩,⟨jAU⟩,⟨jAP⟩⟩
  replace c8:=yb.mpr c8;subst c8;rw [if_neg (show ¬ (false=true) by decide)] at H;have H':=zh H;clear H;have hnb17:=NB502_503.out;have hnc17:=NB503_502.out;have hnb18:=NB502_504.out;have hnc18:=NB504_502.out;obtain ⟨hcz19_0,hcz19_1,hfz19_0,hfz19_1⟩:=cB2 BK502.out
  go_wp2_with (first|((with_reducible refine zJ (f:=29) rfl ?_);refine yj (some 11) rfl rfl Try.func29 jA rfl #[.agg #[.slice A0_0 l0_0.length c0_0,.int .i64 a0_1]] rfl jF ?_;(with_reducible refine (F4.calls k  _ _ l0_0 a0_1 false _ ?side1 ?side2 A7.out).mono ?_);(case side1=>repeat (first|exact (Kd.C_below HR0_0.out HB.out)|(with_reducible refine Kd.C_alloc ?_ _)|(with_reducible refine Kd.C_drewN ?_ _)|(with_reducible refine Kd.C_drew ?_)));(case side2=>exact HC0_0.out);rintro e w20 ⟨rfl,hb⟩;refine ⟨_,rfl,?_⟩;replace BK502:=zh (cD BK502.out jAF hb);replace BK503:=zh (cD BK503.out jAO hb);replace BK504:=zh (cD BK504.out jAU hb);replace HB:=zh (zC jAP hb);(try clear hb);(try clear hb2);(try clear hk);(try clear hi)))
  go_meet
  case rel=>exact ⟨_,(true),jE,H',⟨jAI⟩,⟨jAF⟩,⟨jAO⟩,⟨jAU⟩,⟨jAP⟩⟩
 case rest =>
  clear HC3
  try clear c1 c2
  try clear p2
  try clear c8 c10 c11 c14 c15 c17 c18
  try clear hcz12_0 hcz12_1
  try clear hcz15_0 hcz15_1
  try clear hcz19_0 hcz19_1
  try clear hfz12_0 hfz12_1
  try clear hfz15_0 hfz15_1
  try clear hfz19_0 hfz19_1
  obtain ⟨kq,x17_2,rfl,HA,HJ2,BK502,BK503,BK504,HB⟩:=hcut
  cases kq with
  | zero=>exact absurd HA.out (by simp [Fj.j0])
  | succ kj2 =>
   have H:=HA.out;clear HA;simp only [Fj.j0] at H
   by_cases c21 : x17_2=true
   ·
    subst c21
    rw [if_pos rfl] at H;simp only [Option.some.injEq,Prod.mk.injEq] at H;obtain ⟨rfl,rfl,rfl,rfl⟩:=H;have hnb22:=NB504_502.out;have hnc22:=NB502_504.out;have hnb23:=NB504_503.out;have hnc23:=NB503_504.out;obtain ⟨hcz24_0,hcz24_1,hfz24_0,hfz24_1⟩:=cB2 BK504.out
    go_wp2
    refine bodyPost_ret (results_ctt rfl _ _ gb504 25 #[.slice none 0 0,.int .i64 0] (0,0) _ rfl (by (with_reducible repeat first|apply ze|apply zf|apply zg);refine zL (cs:=#[.slice none 0 0,.int .i64 0]) ?_ 1 _ rfl;(with_reducible repeat first|apply ze|apply zf|apply zg);refine zL (cs:=#[.slice none 0 0,.int .i64 0]) ?_ 0 _ rfl;(with_reducible repeat first|apply ze|apply zf|apply zg);exact BK504.out) Try.underlying25 rfl jA) rfl ?_;exact ⟨_,jG,jC3,jAP⟩
   replace c21:=yb.mpr c21;subst c21;rw [if_neg (show ¬ (false=true) by decide)] at H;replace H:=zT.mp H;obtain ⟨⟨t507,t510,t511,t512⟩,A250,H⟩:=H;have A25:=zh A250;clear A250;replace H:=zT.mp H;obtain ⟨⟨t514,t517⟩,A260,H⟩:=H;have A26:=zh A260;clear A260;simp only [Option.some.injEq,Prod.mk.injEq] at H;obtain ⟨rfl,rfl,rfl,rfl⟩:=H;have hnb27:=NB502_503.out;have hnc27:=NB503_502.out;have hnb28:=NB502_504.out;have hnc28:=NB504_502.out;obtain ⟨hcz29_0,hcz29_1,hfz29_0,hfz29_1⟩:=cB2 BK502.out;have hnb30:=NB503_504.out;have hnc30:=NB504_503.out;obtain ⟨hcz31_0,hcz31_1,hfz31_0,hfz31_1⟩:=cB2 BK503.out
   go_wp2_with (first|((with_reducible refine zJ (f:=36) rfl ?_);refine yj (some 22) rfl rfl Try.func36 jA rfl #[.agg #[.slice A0_0 l0_0.length c0_0,.int .i64 a0_1],.agg #[.string a1_0,.int .i64 a1_1]] rfl jF ?_;(with_reducible refine (F6.calls kj2  (fun k_=>k_<w.heap.size) _ _ l0_0 a0_1 a1_0 a1_1 t507 t510 t511 t512 _ ?side1 A25.out).mono ?_);(case side1=>exact Kd.V_mk HC0_0.out (Kd.F_below (Kd.C_F k60_heap HR0_0.out) jAP));rintro e w32 ⟨v508,rfl,ho0,hb⟩;refine ⟨_,rfl,?_⟩;have HO509:=zh (Kd.V_lower (Kd.V_mono (ok':=fun k_=>k_≠gb502∧k_≠gb503∧k_≠gb504) ho0 (fun k_ hk_=>⟨Or.elim hk_ (fun hs_=>fun e_=>Nat.not_le.2 hs_ (by rw [e_];exact GW502.out)) (fun hn_=>(Kd.freshB (g:=gb502) (o:=.cells #[.slice A0_0 l0_0.length c0_0,.int .i64 a0_1] 25 (0,0)) jAF k_ hn_)),Or.elim hk_ (fun hs_=>fun e_=>Nat.not_le.2 hs_ (by rw [e_];exact GW503.out)) (fun hn_=>(Kd.freshB (g:=gb503) (o:=.cells #[.string a1_0,.int .i64 a1_1] 28 (0,0)) jAO k_ hn_)),Or.elim hk_ (fun hs_=>fun e_=>Nat.not_le.2 hs_ (by rw [e_];exact GW504.out)) (fun hn_=>(Kd.freshB (g:=gb504) (o:=.cells #[.slice none 0 0,.int .i64 0] 25 (0,0)) jAU k_ hn_))⟩)) (zB jAP));replace BK502:=zh (cD BK502.out jAF hb);replace BK503:=zh (cD BK503.out jAO hb);replace BK504:=zh (cD BK504.out jAU hb);replace HB:=zh (zC jAP hb);(try clear hb);(try clear hb2);(try clear hk);(try clear hi);(try clear ho0))|((with_reducible refine zK (N:=7) rfl ?_);refine zI ?hg (N:=7) ?hd (cs:=#[.slice none 0 0,.int .i64 0]) (t:=25) ?hr ?_;(case hd=>rfl);(case hg=>rfl);(case hr=>go_simp <;> rfl);intro gb513 hg w33 hbox hb;replace HO509:=zh (Kd.V_below (Kd.V_elderB (by (with_reducible repeat (first|apply Kd.V_alloc|apply Kd.V_drewN|apply Kd.V_drew));exact HO509.out) gb513 (Nat.le_of_eq hg.symm)) hb);have BK513:=zh (hbox);have hH_:=cH jAP hb hg;have GW513:=zh hH_.1;have GE513:=GW513;replace HB:=zh hH_.2;have NB502_513:=zh ((jCN : gb502≠gb513));have NB513_502:=zh NB502_513.out.symm;replace BK502:=zh (cD BK502.out jAF hb);have NB503_513:=zh ((jDK : gb503≠gb513));have NB513_503:=zh NB503_513.out.symm;replace BK503:=zh (cD BK503.out jAO hb);have NB504_513:=zh ((by rw [hg];exact yc (yi (g:=gb504) (o:=.cells #[.slice none 0 0,.int .i64 0] 25 (0,0)) jAU) : gb504≠gb513));have NB513_504:=zh NB504_513.out.symm;replace BK504:=zh (cD BK504.out jAU hb);clear hb hbox hg hH_;obtain ⟨Ao34,co34,eo34⟩:=Kd.V_slice HO509.out;subst eo34;have hnb35:=NB513_502.out;have hnc35:=NB502_513.out;have hnb36:=NB513_503.out;have hnc36:=NB503_513.out;have hnb37:=NB513_504.out;have hnc37:=NB504_513.out;obtain ⟨hcz38_0,hcz38_1,hfz38_0,hfz38_1⟩:=cB2 BK513.out)|((with_reducible refine zJ (f:=37) rfl ?_);refine yj (some 27) rfl rfl Try.func37 jA rfl #[.agg #[.slice Ao34 t507.length co34,.int .i64 t510]] rfl jF ?_;(with_reducible refine (Fd.calls kj2  _ _ t507 t510 t514 t517 _ ?side1 ?side2 A26.out).mono ?_);(case side1=>refine (Kd.V_reads' (e:=60) (base:=w.heap.size) (ok:=fun k_=>((k_≠gb502∧(k_≠gb503∧k_≠gb504))∧k_≠gb513)) (n:=t507.length) (c:=co34) ?_).2.2;exact jDL);(case side2=>exact (Kd.V_reads' HO509.out).2.1);rintro e w39 ⟨v515,rfl,ho0,hb⟩;refine ⟨_,rfl,?_⟩;replace HO509:=zh (Kd.V_elder' jDL (Kd.S_base ho0) hb);have HO516:=zh (Kd.S_lower (Kd.S_newB ho0 (g:=gb503) (o:=.cells #[.string a1_0,.int .i64 a1_1] 28 (0,0)) jDM) (zB jCO));replace BK502:=zh (cD BK502.out (by (with_reducible repeat first|apply ze|apply zf|apply zg);refine cS2 ?_ NB502_513.out;(with_reducible repeat first|apply ze|apply zf|apply zg);exact BK502.out) hb);replace BK503:=zh (cD BK503.out jDM hb);replace BK504:=zh (cD BK504.out (by (with_reducible repeat first|apply ze|apply zf|apply zg);refine cS2 ?_ NB504_513.out;(with_reducible repeat first|apply ze|apply zf|apply zg);exact BK504.out) hb);replace BK513:=zh (zD (g:=gb513) (o:=.cells #[.slice Ao34 t507.length co34,.int .i64 t510] 25 (0,0)) (by (with_reducible repeat first|apply ze|apply zf|apply zg);refine zL (cs:=#[.slice Ao34 t507.length co34,.int .i64 0]) ?_ 1 _ rfl;(with_reducible repeat first|apply ze|apply zf|apply zg);refine zL (cs:=#[.slice none 0 0,.int .i64 0]) ?_ 0 _ rfl;(with_reducible repeat first|apply ze|apply zf|apply zg);exact BK513.out) hb);replace HB:=zh (zC jCO hb);(try clear hb);(try clear hb2);(try clear hk);(try clear hi);(try clear ho0);obtain ⟨Ao40,co40,eo40⟩:=Kd.S_slice HO516.out;subst eo40;obtain ⟨hcz41_0,hcz41_1,hfz41_0,hfz41_1⟩:=cB2 BK504.out))
   refine bodyPost_ret (results_ctt rfl _ _ gb504 25 #[.slice Ao40 t514.length co40,.int .i64 t517] (0,0) _ rfl (by (with_reducible repeat first|apply ze|apply zf|apply zg);refine zL (cs:=#[.slice Ao40 t514.length co40,.int .i64 0]) ?_ 1 _ rfl;(with_reducible repeat first|apply ze|apply zf|apply zg);refine zL (cs:=#[.slice none 0 0,.int .i64 0]) ?_ 0 _ rfl;(with_reducible repeat first|apply ze|apply zf|apply zg);exact BK504.out) Try.underlying25 rfl jA) rfl ?_;exact ⟨_,jG,by (with_reducible repeat (first|apply Kd.S_alloc|apply Kd.S_drewN|apply Kd.S_drew));exact Kd.S_mono (Kd.S_far (p:=⟨gb504,1,none⟩) (Kd.S_far (p:=⟨gb504,0,none⟩) (Kd.S_types HO516.out BK504.out jB) (fun _ hk=>hk.2) (.slice Ao40 t514.length co40)) (fun _ hk=>hk.2) (.int .i64 t517)) (fun _ hk=>trivial),jCO⟩


def Fl.f (k : Nat) (l0_0 : List (S60)) (a0_1 : Int) : Option (Int×Int):=(F3.f k l0_0 a0_1).bind fun t519=>(if t519=true then ((Fi.f k l0_0 a0_1).bind fun t520=>(some ((t520.length : Int),0))) else (some (0,1)))
theorem Fl.mono : ∀ a0 a1 k,LeO (Fl.f k a0 a1) (Fl.f (k+1) a0 a1):=by
 intro a0 a1 k;unfold Fl.f
 repeat' first|(with_reducible first|exact F3.mono _ _ _|exact Fi.mono _ _ _|exact zQ _|exact zN _|refine zP ?_ ?_|refine zO ?_ (fun _=>?_))|refine zP ?_ ?_|refine zO ?_ (fun _=>?_)
set_option maxHeartbeats 8000000 in
set_option maxRecDepth 100000 in
theorem Fl.calls (k : Nat) (A0_0 : Option Addr) (c0_0 : Nat) (l0_0 : List (S60)) (a0_1 : Int) (r1 : Int) (r2 : Int) (w : World) (hr0_0 : Kd.C k60 w A0_0 l0_0.length l0_0) (hc0_0 : l0_0.length≤c0_0) (h : Fl.f k l0_0 a0_1=some (r1,r2)) :
  Calls Try.prog 16 #[.agg #[.slice A0_0 l0_0.length c0_0,.int .i64 a0_1]] w fun e w' => e = .returned (.tuple #[.int .i64 r1,.int .i64 r2])∧Below w.heap.size w w':=by
 have hu25:=Try.underlying25;have HR0_0:=zh hr0_0;have HC0_0:=zh hc0_0;clear hr0_0 hc0_0;have HB:=zh (Below.refl w.heap.size w);have H : ((F3.f k l0_0 a0_1).bind fun t519=>(if t519=true then ((Fi.f k l0_0 a0_1).bind fun t520=>(some ((t520.length : Int),0))) else (some (0,1))))=some (r1,r2):=h;clear h;replace H:=zT.mp H;obtain ⟨t519,A20,H⟩:=H;have A2:=zh A20;clear A20
 by_cases c3 : t519=true
 ·
  subst c3
  rw [if_pos rfl] at H;replace H:=zT.mp H;obtain ⟨t520,A40,H⟩:=H;have A4:=zh A40;clear A40;simp only [Option.some.injEq,Prod.mk.injEq] at H;obtain ⟨rfl,rfl⟩:=H
  go_enter Try.func16,Try.ntmps16
  go_wp2_with (first|((with_reducible refine zK (N:=1) rfl ?_);refine zI ?hg (N:=1) ?hd (cs:=#[.slice A0_0 l0_0.length c0_0,.int .i64 a0_1]) (t:=25) ?hr ?_;(case hd=>rfl);(case hg=>rfl);(case hr=>go_simp <;> rfl);intro gb518 hg w5 hbox hb;have BK518:=zh (hbox);have hH_:=cH jH hb hg;have GW518:=zh hH_.1;have GE518:=GW518;replace HB:=zh hH_.2;clear hb hbox hg hH_;obtain ⟨hcz6_0,hcz6_1,hfz6_0,hfz6_1⟩:=cB2 BK518.out)|((with_reducible refine zJ (f:=20) rfl ?_);refine yj (some 5) rfl rfl Try.func20 jA rfl #[.agg #[.slice A0_0 l0_0.length c0_0,.int .i64 a0_1]] rfl jF ?_;(with_reducible refine (F3.calls k  _ _ l0_0 a0_1 true _ ?side1 ?side2 A2.out).mono ?_);(case side1=>repeat (first|exact (Kd.C_below HR0_0.out HB.out)|(with_reducible refine Kd.C_alloc ?_ _)|(with_reducible refine Kd.C_drewN ?_ _)|(with_reducible refine Kd.C_drew ?_)));(case side2=>exact HC0_0.out);rintro e w7 ⟨rfl,hb⟩;refine ⟨_,rfl,?_⟩;replace BK518:=zh (cD BK518.out jCP hb);replace HB:=zh (zC jBB hb);(try clear hb);(try clear hb2);(try clear hk);(try clear hi);obtain ⟨hcz8_0,hcz8_1,hfz8_0,hfz8_1⟩:=cB2 BK518.out)|((with_reducible refine zJ (f:=25) rfl ?_);refine yj (some 8) rfl rfl Try.func25 jA rfl #[.agg #[.slice A0_0 l0_0.length c0_0,.int .i64 a0_1]] rfl jF ?_;(with_reducible refine (Fi.calls k  _ _ l0_0 a0_1 t520 _ ?side1 ?side2 A4.out).mono ?_);(case side1=>repeat (first|exact (Kd.C_below HR0_0.out HB.out)|(with_reducible refine Kd.C_alloc ?_ _)|(with_reducible refine Kd.C_drewN ?_ _)|(with_reducible refine Kd.C_drew ?_)));(case side2=>exact HC0_0.out);rintro e w9 ⟨v521,rfl,ho0,hb⟩;refine ⟨_,rfl,?_⟩;have HO522:=zh (yx ho0 (zB jBB));replace BK518:=zh (cD BK518.out jCP hb);replace HB:=zh (zC jBB hb);(try clear hb);(try clear hb2);(try clear hk);(try clear hi);(try clear ho0);obtain ⟨Ao10,co10,eo10⟩:=yk HO522.out;subst eo10))
  go_ret2
  exact ⟨jG,jBB⟩
 replace c3:=yb.mpr c3;subst c3;rw [if_neg (show ¬ (false=true) by decide)] at H;simp only [Option.some.injEq,Prod.mk.injEq] at H;obtain ⟨rfl,rfl⟩:=H
 go_enter Try.func16,Try.ntmps16
 go_wp2_with (first|((with_reducible refine zK (N:=1) rfl ?_);refine zI ?hg (N:=1) ?hd (cs:=#[.slice A0_0 l0_0.length c0_0,.int .i64 a0_1]) (t:=25) ?hr ?_;(case hd=>rfl);(case hg=>rfl);(case hr=>go_simp <;> rfl);intro gb518 hg w11 hbox hb;have BK518:=zh (hbox);have hH_:=cH jH hb hg;have GW518:=zh hH_.1;have GE518:=GW518;replace HB:=zh hH_.2;clear hb hbox hg hH_;obtain ⟨hcz12_0,hcz12_1,hfz12_0,hfz12_1⟩:=cB2 BK518.out)|((with_reducible refine zJ (f:=20) rfl ?_);refine yj (some 5) rfl rfl Try.func20 jA rfl #[.agg #[.slice A0_0 l0_0.length c0_0,.int .i64 a0_1]] rfl jF ?_;(with_reducible refine (F3.calls k  _ _ l0_0 a0_1 false _ ?side1 ?side2 A2.out).mono ?_);(case side1=>repeat (first|exact (Kd.C_below HR0_0.out HB.out)|(with_reducible refine Kd.C_alloc ?_ _)|(with_reducible refine Kd.C_drewN ?_ _)|(with_reducible refine Kd.C_drew ?_)));(case side2=>exact HC0_0.out);rintro e w13 ⟨rfl,hb⟩;refine ⟨_,rfl,?_⟩;replace BK518:=zh (cD BK518.out jCP hb);replace HB:=zh (zC jBB hb);(try clear hb);(try clear hb2);(try clear hk);(try clear hi)))
 go_ret2
 exact ⟨jG,jBB⟩

end Go.Proofs.Ytgifonogfgpjdaa.Q
end
