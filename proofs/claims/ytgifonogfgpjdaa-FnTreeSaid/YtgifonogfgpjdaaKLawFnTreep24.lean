/- Texts of this claim, merged by a program of this session. -/
import Derived.Test.YtgifonogfgpjdaaKLawFnTreep23
section
namespace Go.Proofs.Ytgifonogfgpjdaa.Q
open Go.RowKit Go.Proofs.YtgifonogfgpjdaaW.PrintWords Go.Proofs.YtgifonogfgpjdaaW.PrintLast Go.Proofs.YtgifonogfgpjdaaW.PrintMore
attribute [local go_sem] max2_int min2_int max_two min_two max_three min_three max_four min_four max2_str min2_str str_geq str_gtr str_leq
set_option linter.unusedVariables false
set_option linter.unusedSimpArgs false
def Fu.out (L : List S60) (nx : Int) (j : Nat) (q : Int) (n4 : Bool) (X : List S28) : Int×Int×List S60×Int:=if n4=true then (nx,0,(L.set j (⟨q,X.take 2⟩ : S60)).take (j+1) ++ [(⟨nx,X.drop 2⟩ : S60)]++(L.set j (⟨q,X.take 2⟩ : S60)).drop (j+1),nx+1) else (0,0,L.set j (⟨q,X⟩ : S60),nx)
def Fu.f (k : Nat) (L : List S60) (nx : Int) (key : ByteArray) (id : Int) : Option (Int×Int×List S60×Int):=(Fz.f k L nx key id).bind fun t=>(if 0≤t.1∧t.1<(L.length : Int)∧L.length≤1000000∧((rd_T60 L t.1).f1).length≤1000000 then (if t.2.2=true then some (0,12,L,nx) else (if ((rd_T60 L t.1).f1).length=4∧(L.length=60∨nx=100000) then some (0,7,L,nx) else (if 0≤t.2.1∧t.2.1≤(((rd_T60 L t.1).f1).length : Int)∧wrap64 (nx+1)=nx+1 then some (Fu.out L nx t.1.toNat (rd_T60 L t.1).f0 (decide (((rd_T60 L t.1).f1).length=4)) (((rd_T60 L t.1).f1).take t.2.1.toNat ++ [(⟨key,id⟩ : S28)]++((rd_T60 L t.1).f1).drop t.2.1.toNat)) else none))) else none)
theorem Fu.K_M {w w' : World} {base : Nat} {ok : Nat→Prop} (x : S28) (cs : List Value) (h : k28.K w' x cs) : k28.M w base ok x cs:=by rw [k28_open h];exact k28_mkM _ _ _ _
theorem Fu.cl (A : Option Addr) (c n : Nat) (l : List S28) (w : World) (hn : n=l.length) (hC : Kd.C k28 w A l.length l) (hc : l.length≤c) (hl : l.length≤1000001) : Calls Try.prog 54 #[.slice A n c] w fun e w' => ∃ v0_ : Value,e = .returned v0_∧Kd.R k28 28 w' w.heap.size (fun _=>True) v0_ l∧Below w.heap.size w w':=by
 subst hn;exact F0b.calls A c l l w hC hc (by unfold F0b.f;rw [if_pos jD])
theorem Fu.mono : ∀ a0 a1 a2 a3 k,LeO (Fu.f k a0 a1 a2 a3) (Fu.f (k+1) a0 a1 a2 a3):=by
 intro a0 a1 a2 a3 k;unfold Fu.f;exact zO (Fz.mono _ _ _ _ _) (fun _=>zQ _)
set_option maxHeartbeats 16000000 in
set_option maxRecDepth 100000 in
theorem Fu.calls (k : Nat) (gb : Nat) (pv : Value) (L : List S60) (nx : Int) (key : ByteArray) (id : Int) (r1 r2 : Int) (L' : List S60) (nx' : Int) (w0 w : World) (hB : Below w0.heap.size w0 w) (hb : w.heap[gb]? = some (.cells #[pv,.int .i64 nx] 25 (0,0))) (hg : w0.heap.size≤gb) (hS0 : Kd.N k60 60 w w0.heap.size (fun k_=>w0.heap.size≤k_∧k_≠gb) pv L) (h : Fu.f k L nx key id=some (r1,r2,L',nx')) :
  Calls Try.prog 34 #[.pointer (some ⟨gb,0,none⟩),.agg #[.string key,.int .i64 id]] w fun e w' => ∃ pv',e = .returned (.tuple #[.int .i64 r1,.int .i64 r2])∧w'.heap[gb]? = some (.cells #[pv',.int .i64 nx'] 25 (0,0))∧Kd.N k60 60 w' w0.heap.size (fun k_=>w0.heap.size≤k_∧k_≠gb) pv' L' ∧ Below w0.heap.size w0 w':=by
 have hu35:=Try.underlying25;have hu51:=Try.underlying28;have hu67:=Try.underlying60;obtain ⟨A,c,rfl⟩:=Kd.N_slice hS0;unfold Fu.f at h;obtain ⟨⟨pg,at_,th⟩,hF,h⟩:=zT.mp h;simp only at h
 by_cases hpp : 0≤pg∧pg<(L.length : Int)∧L.length≤1000000∧((rd_T60 L pg).f1).length≤1000000
 case neg=>rw [if_neg hpp] at h;cases h
 rw [if_pos hpp] at h;obtain ⟨hp0,hp1,hLm,hlm⟩:=hpp;obtain ⟨V,hV⟩ : ∃ V,V=w.alloc (.cells #[.string key,.int .i64 id] 28):=⟨_,rfl⟩;have hbV : Below w.heap.size w V:=by rw [hV];exact za (Below.refl _ _) _
 have hVe : V.heap[w.heap.size]? = some (.cells #[.string key,.int .i64 id] 28 (0,0)):=by rw [hV];exact blk_new w _
 obtain ⟨ge,hge⟩ : ∃ ge,ge=w.heap.size:=⟨_,rfl⟩;rw [← hge] at hVe;have hne_ : gb≠ge:=fun e9=>Nat.lt_irrefl _ (by have:=yi hb;rw [e9,hge] at this;exact this);have hSV:=Kd.N_below (Kd.N_bound hS0) hbV;have hbb:=zD hb hbV;have hBV:=zC hB hbV;have mixed : Try.prog.follows Departure.mixedOrders=true:=by rfl
 have late : Try.prog.follows Departure.lateStores=true:=by rfl
 have k0 : V.cell? ⟨gb,0,none⟩=some (.slice A L.length c):=(zz hbb 0).trans rfl;have k1 : V.cell? ⟨gb,1,none⟩=some (.int .i64 nx):=(zz hbb 1).trans rfl;have k2 : V.cell? ⟨ge,0,none⟩=some (.string key):=(zz hVe 0).trans rfl;have k3 : V.cell? ⟨ge,1,none⟩=some (.int .i64 id):=(zz hVe 1).trans rfl;have hlb:=yi hbb;have hle:=yi hVe
 have hcell : ∀ W1,Below V.heap.size V W1→(W1.cell? ⟨gb,0,none⟩=some (.slice A L.length c)∧W1.cell? ⟨gb,1,none⟩=some (.int .i64 nx)∧W1.cell? ⟨ge,0,none⟩=some (.string key)∧W1.cell? ⟨ge,1,none⟩=some (.int .i64 id)) :=
  fun W1 hb=>⟨(hb.cell hlb).trans k0,(hb.cell hlb).trans k1,(hb.cell hle).trans k2,(hb.cell hle).trans k3⟩
 have hCV:=fun W1 (hb : Below V.heap.size V W1)=>Kd.C_below (Kd.N_reads' hSV).2.2 hb;have hLc:=(Kd.N_reads' hSV).2.1;have NE:=zh hne_;have HE:=zh hVe;have HW0:=zh hge;have hlt_ : ∀ k_,(w0.heap.size≤k_∧k_≠gb)∧k_<w.heap.size→w0.heap.size≤k_∧k_≠gb∧k_≠ge:=fun k_ hk=>⟨hk.1.1,hk.1.2,fun e9=>by rw [e9,hge] at hk;exact Nat.lt_irrefl _ hk.2⟩;have HLT:=zh hlt_;have GE0 : Aside0 (w0.heap.size≤ge):=⟨by rw [hge];exact hB.size⟩;clear hlt_ hVe hne_
 go_enter Try.func34,Try.ntmps34
 go_wp2_with fail
 rw [← hV];simp only [← hge];clear hV hge
 go_region_held3 (fun w' => w'.cell? ⟨gb,0,none⟩=some (.slice A L.length c)∧w'.cell? ⟨gb,1,none⟩=some (.int .i64 nx)∧w'.cell? ⟨ge,0,none⟩=some (.string key)∧w'.cell? ⟨ge,1,none⟩=some (.int .i64 id)) (exact hcell _ jBk) (first|(go_at_call 55;refine (Fz.calls k A c L nx key id pg at_ th _ (hCV _ jBk) hLc hF).mono ?_;rintro e w1 ⟨rfl,hb0⟩;have hb1 : Below V.heap.size V w1:=zC jDA hb0))
 have HB1:=zh (zC hBV hb1);have HN1:=zh (Kd.N_mono (Kd.N_below hSV hb1) HLT.out);have H0_1:=zh (zD hbb hb1);have H1_1:=zh (zD HE.out hb1);clear hbV hSV hbb hBV k0 k1 k2 k3 hlb hle hcell hCV hb0 hb1 hF hS0 hB hb HE HW0 HLT;obtain ⟨g,cg,eg,gb_,gl_,cg_,hg_⟩:=Kd.N_form HN1.out jD;injection eg with ea _ ec;subst ea;subst ec;obtain ⟨ce,hcl_,hFK_,hcc_,hfr_⟩:=Kd.N_elem HN1.out z60 pg hp0 hp1;obtain ⟨Ae,ke,rfl,hle_,hFe_⟩:=k60_openF hFK_;have er : L.getD pg.toNat z60=rd_T60 L pg:=rfl;rw [er] at hle_ hFe_ hcc_;obtain ⟨l,hl⟩ : ∃ l,l=(rd_T60 L pg).f1:=⟨_,rfl⟩;obtain ⟨q,hq⟩ : ∃ q,q=(rd_T60 L pg).f0:=⟨_,rfl⟩;rw [← hl] at hle_ hFe_ hcc_ h hlm;rw [← hq] at hcc_ h;have HQ:=zh hq;have HEX : Aside0 (w1.cell? ⟨g,pg.toNat*2+1,none⟩=some (.slice Ae l.length ke)):=⟨hcc_ 1 _ rfl⟩;have HCC:=zh hcc_;have HFE:=zh hFe_;have HLE:=zh hle_
 have GBG : Aside0 (gb≠g):=⟨fun e9=>by
  have h9:=H0_1.out;rw [e9] at h9;rw [h9] at hg_;injection hg_ with hg_;injection hg_ with _ hg_
  exact absurd hg_ jB⟩
 have GEG : Aside0 (ge≠g):=⟨fun e9=>by
  have h9:=H1_1.out;rw [e9] at h9;rw [h9] at hg_;injection hg_ with hg_;injection hg_ with _ hg_
  exact absurd hg_ jB⟩
 have GW:=zh gb_;have GL1:=zh gl_;have HLm:=zh hLm;have Hlm:=zh hlm;have HP1:=zh hp1;have hpi0:=eq_true hp0;have hpi1:=eq_true hp1;have k0:=(zz H0_1.out 0).trans (show _=some (.slice (some ⟨g,0,none⟩) L.length c) from rfl);have k1:=(zz H0_1.out 1).trans (show _=some (.int .i64 nx) from rfl);have kx:=HEX.out;clear hcl_ hFK_ hcc_ hfr_ hle_ hFe_ er hl hq hg_ gb_ gl_ hLm hlm hp1
 cases th with
 | true =>
  rw [if_pos rfl] at h;simp only [Option.some.injEq,Prod.mk.injEq] at h;obtain ⟨rfl,rfl,rfl,rfl⟩:=h
  go_wp2_with fail
  go_ret2
  exact ⟨rfl,_,H0_1.out,Kd.N_mono HN1.out (fun _ hk=>⟨hk.1,hk.2.1⟩),HB1.out⟩
 | false =>
  rw [if_neg jB] at h;have fin7 : ∀ W1,W1=w1→(W1.heap[gb]? = some (.cells #[.slice (some ⟨g,0,none⟩) L.length c,.int .i64 nx] 25 (0,0))∧Kd.N k60 60 W1 w0.heap.size (fun k_=>w0.heap.size≤k_∧k_≠gb) (.slice (some ⟨g,0,none⟩) L.length c) L∧Below w0.heap.size w0 W1):=fun W1 e9=>by rw [e9];exact ⟨H0_1.out,Kd.N_mono HN1.out (fun _ hk=>⟨hk.1,hk.2.1⟩),HB1.out⟩
  have F7:=zh fin7;clear fin7
  by_cases hfull : l.length=4∧(L.length=60∨nx=100000)
  ·
   rw [if_pos hfull] at h
   simp only [Option.some.injEq,Prod.mk.injEq] at h;obtain ⟨rfl,rfl,rfl,rfl⟩:=h;obtain ⟨d1,d2⟩:=hfull;have e1 : ((l.length : Int) == 4)=true:=ya.mpr jD;have e1n : (l.length == 4)=true:=ya.mpr d1
   by_cases d3 : L.length=60
   ·
    have e2 : ((L.length : Int) == 60)=true:=ya.mpr jD
    have e2n : (L.length == 60)=true:=ya.mpr d3;clear d1 d2 d3
    go_wp2_with fail
    go_ret2
    obtain ⟨z1,z2,z3⟩:=F7.out _ rfl;exact ⟨rfl,_,z1,z2,z3⟩
   have e2 : ((L.length : Int) == 60)=false:=zY.mpr jD;have e2n : (L.length == 60)=false:=zY.mpr d3;have e3 : (nx == 100000)=true:=ya.mpr (d2.resolve_left d3);clear d1 d2 d3
   go_wp2_with fail
   go_ret2
   obtain ⟨z1,z2,z3⟩:=F7.out _ rfl;exact ⟨rfl,_,z1,z2,z3⟩
  rw [if_neg hfull] at h
  by_cases hat : 0≤at_∧at_≤(l.length : Int)∧wrap64 (nx+1)=nx+1
  case neg=>rw [if_neg hat] at h;cases h
  rw [if_pos hat] at h;obtain ⟨ha0,ha1,hnw⟩:=hat;obtain ⟨im,rfl⟩ : ∃ im : Nat,at_=(im : Int):=⟨at_.toNat,(Int.toNat_of_nonneg ha0).symm⟩;rw [Int.toNat_natCast] at h;have HNW : Aside0 (IntKind.i64.wrap (nx+1)=nx+1):=⟨(zG _).trans hnw⟩;have HIL : Aside0 (im≤l.length):=⟨Int.ofNat_le.1 ha1⟩;have HO:=zh (zU h);obtain ⟨X,hX⟩ : ∃ X : List S28,X=l.take im ++ [(⟨key,id⟩ : S28)]++l.drop im:=⟨_,rfl⟩;have HX:=zh hX;clear h ha0 ha1 hnw hX
  by_cases hs : l.length=4
  case neg =>
   have hO:=HO.out;have e1 : ((l.length : Int) == 4)=false:=zY.mpr jD;have e1n : (l.length == 4)=false:=zY.mpr hs;rw [decide_eq_false hs] at hO;unfold Fu.out at hO;rw [if_neg jB] at hO;simp only [Prod.mk.injEq] at hO;obtain ⟨rfl,rfl,hL1,rfl⟩:=hO;have HL1:=zh hL1;clear hL1 HO hs hfull
   go_upto_region 7 with (fail)
   have HB2:=zh (zc HB1.out);have H0_2:=zh (zf H0_1.out);have H1_2:=zh (zf H1_1.out);have HN2 : Aside0 (Kd.N k60 60 w1.drew w0.heap.size (fun k_=>w0.heap.size≤k_∧k_≠gb) (.slice (some ⟨g,0,none⟩) L.length c) L):=⟨Kd.N_drew (Kd.N_mono HN1.out (fun _ hk=>⟨hk.1,hk.2.1⟩))⟩;have HFE2:=zh (Kd.F_drew HFE.out);have HEX2 : Aside0 (w1.drew.cell? ⟨g,pg.toNat*2+1,none⟩=some (.slice Ae l.length ke)):=⟨HEX.out⟩;have GL2 : Aside0 (g<w1.drew.heap.size):=⟨GL1.out⟩;have GB2 : Aside0 (gb<w1.drew.heap.size):=⟨yi H0_2.out⟩;refine start_ (n:=14) (S:=fun w' => w'.cell? ⟨gb,0,none⟩=some (.slice (some ⟨g,0,none⟩) L.length c)∧w'.cell? ⟨g,pg.toNat*2+1,none⟩=some (.slice Ae l.length ke)∧w'.cell? ⟨ge,0,none⟩=some (.string key)∧w'.cell? ⟨ge,1,none⟩=some (.int .i64 id)) (ds:=[12]) (bm_ 0 14) jA rfl rfl ⟨(zz H0_2.out 0).trans rfl,HEX2.out,(zz H1_2.out 0).trans rfl,(zz H1_2.out 1).trans rfl⟩ (fun hHeld=>?_);generalize w1.drew=w2 at HB2 H0_2 H1_2 HN2 HFE2 HEX2 GL2 GB2 hHeld ⊢;clear HB1 H0_1 H1_1 HN1 HFE HEX GL1 F7 HCC;refine pure_ (i:=0) (N:=some 50) (v:=?_) (a':=?_) (bm_ 1 14) rfl rfl jA (fun _ _ _ h=>h) (Or.inl ⟨by rfl,?_⟩) ?_ ?_;rotate_left;exact jb;rotate_left;exact jc
   refine pure_ (i:=1) (N:=some 51) (v:=?_) (a':=?_) (bm_ 2 14) rfl rfl jA (fun _ _ _ h=>h) (Or.inl ⟨by rfl,?_⟩) ?_ ?_;rotate_left;exact jb;rotate_left;exact jc
   refine pure_ (i:=2) (N:=some 52) (v:=?_) (a':=?_) (bm_ 3 14) rfl rfl jA (fun _ _ _ h=>h) (Or.inl ⟨by rfl,?_⟩) ?_ ?_;rotate_left;exact jb;rotate_left;exact jc
   refine pure_ (i:=4) (N:=some 54) (v:=?_) (a':=?_) #[true,true,true,false,true,false,false,false,false,false,false,false,false,false] rfl rfl jA (fun _ _ _ h=>h) (Or.inl ⟨by rfl,?_⟩) ?_ ?_;rotate_left;exact jb;rotate_left;exact jc
   refine pure_ (i:=9) (N:=some 59) (v:=?_) (a':=?_) #[true,true,true,false,true,false,false,false,false,true,false,false,false,false] rfl rfl jA (fun _ _ _ h=>h) (Or.inl ⟨by rfl,?_⟩) ?_ ?_;rotate_left;exact jb;rotate_left;exact jc
   refine take_ (i:=3) (N:=some 53) (v:=?_) (a':=?_) #[true,true,true,true,true,false,false,false,false,true,false,false,false,false] rfl rfl jA (fun _ _ _ h=>h) (Or.inl ⟨by rfl,?_⟩) hHeld ?_ ?_;rotate_left
   ·
    rintro w' ⟨s0,s1,s2,s3⟩
    go_simp
    with_reducible rfl
   rotate_left
   exact jc
   refine pure_ (i:=5) (N:=some 55) (v:=?_) (a':=?_) #[true,true,true,true,true,true,false,false,false,true,false,false,false,false] rfl rfl jA (fun _ _ _ h=>h) (Or.inl ⟨by rfl,?_⟩) ?_ ?_;rotate_left;exact jb;rotate_left;exact jc
   refine pure_ (i:=6) (N:=some 56) (v:=?_) (a':=?_) #[true,true,true,true,true,true,true,false,false,true,false,false,false,false] rfl rfl jA (fun _ _ _ h=>h) (Or.inl ⟨by rfl,?_⟩) ?_ ?_;rotate_left;exact jb;rotate_left;exact jc
   refine take_ (i:=7) (N:=some 57) (v:=?_) (a':=?_) #[true,true,true,true,true,true,true,true,false,true,false,false,false,false] rfl rfl jA (fun _ _ _ h=>h) (Or.inl ⟨by rfl,?_⟩) hHeld ?_ ?_;rotate_left
   ·
    rintro w' ⟨s0,s1,s2,s3⟩
    go_simp
    with_reducible rfl
   rotate_left
   exact jc
   refine take_ (i:=10) (N:=some 60) (v:=?_) (a':=?_) #[true,true,true,true,true,true,true,true,false,true,true,false,false,false] rfl rfl jA (fun _ _ _ h=>h) (Or.inl ⟨by rfl,?_⟩) hHeld ?_ ?_;rotate_left
   ·
    rintro w' ⟨s0,s1,s2,s3⟩
    go_simp
    with_reducible rfl
   rotate_left
   exact jc
   refine join_ (σ:=Value×Nat) 2 (bm_ 12 14) (fun s => [(58,s.1),(61,.slice (some ⟨s.2,0,none⟩) 1 1)]) (fun s w' => Kd.R k28 28 w' w2.heap.size (fun _=>True) s.1 l∧w'.heap[s.2]? = some (.cells #[.string key,.int .i64 id] 28 (0,0))∧some s.2≠s.1.ownBlock∧Below w2.heap.size w2 w') ?_ ?_;rotate_left
   ·
    intro hCont
    refine two_ (i:=8) (j:=11) (Ni:=some 58) (Nj:=some 61) (bm_ 11 14) #[true,true,true,true,true,true,true,true,false,true,true,true,false,false] rfl rfl rfl rfl jA jB jB (fun K hK=>?_) (fun K hK=>?_)
    ·
     skip
     refine goes_ Try.func54 jA rfl #[.slice Ae l.length ke] (by rfl) rfl rfl jAC ?_
     with_reducible refine (Fu.cl Ae ke l.length l _ rfl (Kd.F_now (Kd.F_below HFE2.out (Below.refl w2.heap.size w2))) HLE.out jA7).mono ?_
     rintro e wa ⟨va,rfl,hRa,hba_⟩;refine ⟨_,rfl,?_⟩;have hb8:=zC (Below.refl w2.heap.size w2) hba_;refine hK.out _ _ ⟨(zz (zD H0_2.out hb8) 0).trans rfl,(Below.cell hb8 GL2.out).trans HEX2.out,(zz (zD H1_2.out hb8) 0).trans rfl,(zz (zD H1_2.out hb8) 1).trans rfl⟩ (fun hHeld=>?_);clear hK K;refine norm_ (a':=?_) ?_ ?_;rotate_left
     ·
      show Act.put _ (some 58) _=_
      simp only [Act.put,zi,zj,zk,zG,zH]
      rfl
     refine one_ (i:=11) (N:=some 61) (bm_ 12 14) rfl rfl jA jB (fun K hK=>?_);refine value_ (w1:=?_) (v:=?_) (by rfl) rfl ?_ ?_;rotate_left 2
     ·
      go_simp
      constructor
      ·
       rfl
      rfl
     refine hK.out _ _ ⟨(zz (zD H0_2.out (za hb8 _)) 0).trans rfl,(Below.cell (za hb8 _) GL2.out).trans HEX2.out,(zz (zD H1_2.out (za hb8 _)) 0).trans rfl,(zz (zD H1_2.out (za hb8 _)) 1).trans rfl⟩ (fun hHeld=>?_);clear hK K;refine norm_ (a':=?_) ?_ ?_;rotate_left
     ·
      show Act.put _ (some 61) _=_
      simp only [Act.put,zi,zj,zk,zG,zH]
      rfl
     exact norm_ jt (hCont (va,wa.heap.size) _ ⟨zm hRa _,blk_new wa _,(fun he=>Nat.lt_irrefl _ (Kd.R_lt hRa _ he.symm)),za hb8 _⟩)
    skip
    refine value_ (w1:=?_) (v:=?_) (by rfl) rfl ?_ ?_;rotate_left 2
    ·
     go_simp
     constructor
     ·
      rfl
     rfl
    refine hK.out _ _ ⟨(zz (zD H0_2.out (za (Below.refl w2.heap.size w2) _)) 0).trans rfl,(Below.cell (za (Below.refl w2.heap.size w2) _) GL2.out).trans HEX2.out,(zz (zD H1_2.out (za (Below.refl w2.heap.size w2) _)) 0).trans rfl,(zz (zD H1_2.out (za (Below.refl w2.heap.size w2) _)) 1).trans rfl⟩ (fun hHeld=>?_);clear hK K;refine norm_ (a':=?_) ?_ ?_;rotate_left
    ·
     show Act.put _ (some 61) _=_
     simp only [Act.put,zi,zj,zk,zG,zH]
     rfl
    refine one_ (i:=8) (N:=some 58) (bm_ 12 14) rfl rfl jA jB (fun K hK=>?_);refine goes_ Try.func54 jA rfl #[.slice Ae l.length ke] (by rfl) rfl rfl jAC ?_
    with_reducible refine (Fu.cl Ae ke l.length l _ rfl (Kd.F_now (Kd.F_below HFE2.out (za (Below.refl w2.heap.size w2) _))) HLE.out jA7).mono ?_
    rintro e wa ⟨va,rfl,hRa,hba_⟩;refine ⟨_,rfl,?_⟩;have hb8:=zC (za (Below.refl w2.heap.size w2) _) hba_;refine hK.out _ _ ⟨(zz (zD H0_2.out hb8) 0).trans rfl,(Below.cell hb8 GL2.out).trans HEX2.out,(zz (zD H1_2.out hb8) 0).trans rfl,(zz (zD H1_2.out hb8) 1).trans rfl⟩ (fun hHeld=>?_);clear hK K;refine norm_ (a':=?_) ?_ ?_;rotate_left
    ·
     show Act.put _ (some 58) _=_
     simp only [Act.put,zi,zj,zk,zG,zH]
     rfl
    exact norm_ jt (hCont (va,w2.heap.size) _ ⟨yx hRa (za (Below.refl w2.heap.size w2) _).size,zD (blk_new w2 _) hba_,(fun he=>Nat.lt_irrefl _ (Nat.lt_of_lt_of_le (yi (blk_new w2 _)) (Kd.R_base hRa _ he.symm))),hb8⟩)
   rintro ⟨va,gl⟩ wt ⟨hRa,hlit,hne,hbt⟩;have hHeld : wt.cell? ⟨gb,0,none⟩=some (.slice (some ⟨g,0,none⟩) L.length c)∧wt.cell? ⟨g,pg.toNat*2+1,none⟩=some (.slice Ae l.length ke)∧wt.cell? ⟨ge,0,none⟩=some (.string key)∧wt.cell? ⟨ge,1,none⟩=some (.int .i64 id):=⟨(zz (zD H0_2.out hbt) 0).trans rfl,(Below.cell hbt GL2.out).trans HEX2.out,(zz (zD H1_2.out hbt) 0).trans rfl,(zz (zD H1_2.out hbt) 1).trans rfl⟩;refine norm_ (a':=?_) ?_ ?_;rotate_left
   ·
    simp only [putAll,Act.put,zi,zj,zk]
    rfl
   refine last_ (i:=12) (N:=some 62) (bm_ 13 14) rfl rfl jA jB (fun K hK=>?_);refine goes_ Try.func56 jA rfl #[va,.int .i64 (im : Int),.slice (some ⟨gl,0,none⟩) 1 1] (by rfl) rfl rfl jAC ?_
   with_reducible refine (slices_Insert_entries.ins2 (fun _=>True) (fun _=>False) w2.heap.size va l (⟨key,id⟩ : S28) [.string key,.int .i64 id] gl im w2 _ HIL.out hRa hlit hne (k28_mkM _ _ _ (⟨key,id⟩ : S28)) (fun x cs h9=>Fu.K_M x cs h9) (fun _ h9=>h9.elim) (fun _ _=>trivial) hbt hbt.size jA7).mono ?_
   rintro e we ⟨ve,rfl,hRe,hbe,-,-⟩;refine ⟨_,rfl,?_⟩;rw [← HX.out] at hRe;obtain ⟨A2,c2,rfl⟩:=yk hRe;refine hK.out _ _ ?_;clear hK K;refine norm_ (a':=?_) ?_ ?_;rotate_left
   ·
    show Act.put _ (some 62) _=_
    simp only [Act.put,zi,zj,zk,zG,zH]
    rfl
   refine pure_ (i:=13) (N:=some 10) (v:=?_) (a':=?_) (bm_ 14 14) rfl rfl jA (fun _ _ _ h=>h) (Or.inl ⟨by rfl,?_⟩) ?_ ?_;rotate_left;exact jb;rotate_left;exact jc
   refine done_ jA ?_;have HB3:=zh (zC HB2.out hbe);have H0_3:=zh (zD H0_2.out hbe);have HN3:=zh (Kd.N_below HN2.out hbe);have HFX : Aside0 (Kd.F k28 we (fun k_=>w2.heap.size≤k_) A2 X.length X):=⟨Kd.F_mono (Kd.R_F (Kd.R_bound hRe)) (fun _ hk=>hk.2.1)⟩;have HXC:=zh (yh hRe).2.1;have L23 : Aside0 (w2.heap.size≤we.heap.size):=⟨hbe.size⟩;have GBW : Aside0 (w0.heap.size≤gb):=⟨hg⟩;clear hRa hlit hne hbt hRe hbe HB2 H0_2 H1_2 HN2 HFE2 HEX2;obtain ⟨ce,hcl_,hFK_,hcc_,hfr_⟩:=Kd.N_elem HN3.out z60 pg hp0 HP1.out;obtain ⟨A9,c9,rfl,-,-⟩:=k60_openF hFK_;have q9 : we.cell? ⟨g,pg.toNat*2+1,none⟩=some (.slice A9 (rd_T60 L pg).f1.length c9):=hcc_ 1 _ rfl;have f9 : we.frozen? ⟨g,pg.toNat*2+1,none⟩=false:=hfr_ 1;have k0:=(zz H0_3.out 0).trans (show _=some (.slice (some ⟨g,0,none⟩) L.length c) from rfl)
   obtain ⟨hN8,-⟩ : Kd.N k60 60 (we.setCell ⟨g,pg.toNat*2+1,none⟩ (.slice A2 X.length c2)) w0.heap.size (fun k_=>w0.heap.size≤k_∧k_≠gb) (.slice (some ⟨g,0,none⟩) L.length c) (L.set pg.toNat (⟨(rd_T60 L pg).f0,X⟩ : S60))∧we.grownBy (we.setCell ⟨g,pg.toNat*2+1,none⟩ (.slice A2 X.length c2)) (some g) :=
    Kd.N_seg HN3.out pg hp0 HP1.out (c:=[.int .i64 (rd_T60 L pg).f0,.slice A9 (rd_T60 L pg).f1.length c9]) (seg:=[.slice A2 X.length c2]) (j:=1) rfl hcc_ (show 1+1≤2 from by decide) (x':=(⟨(rd_T60 L pg).f0,X⟩ : S60)) (okp:=fun k_=>w2.heap.size≤k_) (k60_mkF we _ (⟨(rd_T60 L pg).f0,X⟩ : S60) HXC.out HFX.out) (fun k_ hk=>⟨⟨Nat.le_trans GW.out (Nat.le_trans (Nat.le_of_lt GL2.out) hk),fun e9=>by rw [e9] at hk;exact Nat.lt_irrefl _ (Nat.lt_of_lt_of_le GB2.out hk)⟩,fun e9=>by rw [e9] at hk;exact Nat.lt_irrefl _ (Nat.lt_of_lt_of_le GL2.out hk)⟩)
   rw [← HQ.out] at hN8;have HX' : L.set pg.toNat (⟨q,X⟩ : S60)=L':=by rw [HX.out];exact HL1.out
   rw [HX'] at hN8;have HN8:=zh hN8;have HB8 : Aside0 (Below w0.heap.size w0 (we.setCell ⟨g,pg.toNat*2+1,none⟩ (.slice A2 X.length c2))):=⟨zd HB3.out GW.out⟩;have H0_8 : Aside0 ((we.setCell ⟨g,pg.toNat*2+1,none⟩ (.slice A2 X.length c2)).heap[gb]? = some (.cells #[.slice (some ⟨g,0,none⟩) L.length c,.int .i64 nx] 25 (0,0))):=⟨(Below.heap_setCell _ ⟨g,_,none⟩ _ gb GBG.out).trans H0_3.out⟩;clear hN8 HX' hcl_ hFK_ hcc_ hfr_
   go_wp2_with fail
   go_ret2
   exact ⟨rfl,_,H0_8.out,HN8.out,HB8.out⟩
  have hO:=HO.out;rw [decide_eq_true hs] at hO;unfold Fu.out at hO;rw [if_pos rfl] at hO;simp only [Prod.mk.injEq] at hO;obtain ⟨rfl,rfl,hL1,rfl⟩:=hO;have HL1:=zh hL1;have e1 : ((l.length : Int) == 4)=true:=ya.mpr jD;have e1n : (l.length == 4)=true:=ya.mpr hs;have e2 : ((L.length : Int) == 60)=false:=zY.mpr (fun h7=>hfull ⟨hs,.inl jD⟩);have e2n : (L.length == 60)=false:=zY.mpr (fun h7=>hfull ⟨hs,.inl h7⟩);have e3 : (nx == 100000)=false:=zY.mpr (fun h7=>hfull ⟨hs,.inr h7⟩);have X5 : Aside0 (X.length=5):=⟨by rw [HX.out];have:=HIL.out;simp;omega⟩;clear hL1 HO hs hfull
  go_upto_region 7 with (fail)
  have HB2:=zh (zc HB1.out);have H0_2:=zh (zf H0_1.out);have H1_2:=zh (zf H1_1.out);have HN2 : Aside0 (Kd.N k60 60 w1.drew w0.heap.size (fun k_=>w0.heap.size≤k_∧k_≠gb) (.slice (some ⟨g,0,none⟩) L.length c) L):=⟨Kd.N_drew (Kd.N_mono HN1.out (fun _ hk=>⟨hk.1,hk.2.1⟩))⟩;have HFE2:=zh (Kd.F_drew HFE.out);have HEX2 : Aside0 (w1.drew.cell? ⟨g,pg.toNat*2+1,none⟩=some (.slice Ae l.length ke)):=⟨HEX.out⟩;have GL2 : Aside0 (g<w1.drew.heap.size):=⟨GL1.out⟩;have GB2 : Aside0 (gb<w1.drew.heap.size):=⟨yi H0_2.out⟩;refine start_ (n:=14) (S:=fun w' => w'.cell? ⟨gb,0,none⟩=some (.slice (some ⟨g,0,none⟩) L.length c)∧w'.cell? ⟨g,pg.toNat*2+1,none⟩=some (.slice Ae l.length ke)∧w'.cell? ⟨ge,0,none⟩=some (.string key)∧w'.cell? ⟨ge,1,none⟩=some (.int .i64 id)) (ds:=[12]) (bm_ 0 14) jA rfl rfl ⟨(zz H0_2.out 0).trans rfl,HEX2.out,(zz H1_2.out 0).trans rfl,(zz H1_2.out 1).trans rfl⟩ (fun hHeld=>?_);generalize w1.drew=w2 at HB2 H0_2 H1_2 HN2 HFE2 HEX2 GL2 GB2 hHeld ⊢;clear HB1 H0_1 H1_1 HN1 HFE HEX GL1 F7 HCC;refine pure_ (i:=0) (N:=some 50) (v:=?_) (a':=?_) (bm_ 1 14) rfl rfl jA (fun _ _ _ h=>h) (Or.inl ⟨by rfl,?_⟩) ?_ ?_;rotate_left;exact jb;rotate_left;exact jc
  refine pure_ (i:=1) (N:=some 51) (v:=?_) (a':=?_) (bm_ 2 14) rfl rfl jA (fun _ _ _ h=>h) (Or.inl ⟨by rfl,?_⟩) ?_ ?_;rotate_left;exact jb;rotate_left;exact jc
  refine pure_ (i:=2) (N:=some 52) (v:=?_) (a':=?_) (bm_ 3 14) rfl rfl jA (fun _ _ _ h=>h) (Or.inl ⟨by rfl,?_⟩) ?_ ?_;rotate_left;exact jb;rotate_left;exact jc
  refine pure_ (i:=4) (N:=some 54) (v:=?_) (a':=?_) #[true,true,true,false,true,false,false,false,false,false,false,false,false,false] rfl rfl jA (fun _ _ _ h=>h) (Or.inl ⟨by rfl,?_⟩) ?_ ?_;rotate_left;exact jb;rotate_left;exact jc
  refine pure_ (i:=9) (N:=some 59) (v:=?_) (a':=?_) #[true,true,true,false,true,false,false,false,false,true,false,false,false,false] rfl rfl jA (fun _ _ _ h=>h) (Or.inl ⟨by rfl,?_⟩) ?_ ?_;rotate_left;exact jb;rotate_left;exact jc
  refine take_ (i:=3) (N:=some 53) (v:=?_) (a':=?_) #[true,true,true,true,true,false,false,false,false,true,false,false,false,false] rfl rfl jA (fun _ _ _ h=>h) (Or.inl ⟨by rfl,?_⟩) hHeld ?_ ?_;rotate_left
  ·
   rintro w' ⟨s0,s1,s2,s3⟩
   go_simp
   with_reducible rfl
  rotate_left
  exact jc
  refine pure_ (i:=5) (N:=some 55) (v:=?_) (a':=?_) #[true,true,true,true,true,true,false,false,false,true,false,false,false,false] rfl rfl jA (fun _ _ _ h=>h) (Or.inl ⟨by rfl,?_⟩) ?_ ?_;rotate_left;exact jb;rotate_left;exact jc
  refine pure_ (i:=6) (N:=some 56) (v:=?_) (a':=?_) #[true,true,true,true,true,true,true,false,false,true,false,false,false,false] rfl rfl jA (fun _ _ _ h=>h) (Or.inl ⟨by rfl,?_⟩) ?_ ?_;rotate_left;exact jb;rotate_left;exact jc
  refine take_ (i:=7) (N:=some 57) (v:=?_) (a':=?_) #[true,true,true,true,true,true,true,true,false,true,false,false,false,false] rfl rfl jA (fun _ _ _ h=>h) (Or.inl ⟨by rfl,?_⟩) hHeld ?_ ?_;rotate_left
  ·
   rintro w' ⟨s0,s1,s2,s3⟩
   go_simp
   with_reducible rfl
  rotate_left
  exact jc
  refine take_ (i:=10) (N:=some 60) (v:=?_) (a':=?_) #[true,true,true,true,true,true,true,true,false,true,true,false,false,false] rfl rfl jA (fun _ _ _ h=>h) (Or.inl ⟨by rfl,?_⟩) hHeld ?_ ?_;rotate_left
  ·
   rintro w' ⟨s0,s1,s2,s3⟩
   go_simp
   with_reducible rfl
  rotate_left
  exact jc
  refine join_ (σ:=Value×Nat) 2 (bm_ 12 14) (fun s => [(58,s.1),(61,.slice (some ⟨s.2,0,none⟩) 1 1)]) (fun s w' => Kd.R k28 28 w' w2.heap.size (fun _=>True) s.1 l∧w'.heap[s.2]? = some (.cells #[.string key,.int .i64 id] 28 (0,0))∧some s.2≠s.1.ownBlock∧Below w2.heap.size w2 w') ?_ ?_;rotate_left
  ·
   intro hCont
   refine two_ (i:=8) (j:=11) (Ni:=some 58) (Nj:=some 61) (bm_ 11 14) #[true,true,true,true,true,true,true,true,false,true,true,true,false,false] rfl rfl rfl rfl jA jB jB (fun K hK=>?_) (fun K hK=>?_)
   ·
    skip
    refine goes_ Try.func54 jA rfl #[.slice Ae l.length ke] (by rfl) rfl rfl jAC ?_
    with_reducible refine (Fu.cl Ae ke l.length l _ rfl (Kd.F_now (Kd.F_below HFE2.out (Below.refl w2.heap.size w2))) HLE.out jA7).mono ?_
    rintro e wa ⟨va,rfl,hRa,hba_⟩;refine ⟨_,rfl,?_⟩;have hb8:=zC (Below.refl w2.heap.size w2) hba_;refine hK.out _ _ ⟨(zz (zD H0_2.out hb8) 0).trans rfl,(Below.cell hb8 GL2.out).trans HEX2.out,(zz (zD H1_2.out hb8) 0).trans rfl,(zz (zD H1_2.out hb8) 1).trans rfl⟩ (fun hHeld=>?_);clear hK K;refine norm_ (a':=?_) ?_ ?_;rotate_left
    ·
     show Act.put _ (some 58) _=_
     simp only [Act.put,zi,zj,zk,zG,zH]
     rfl
    refine one_ (i:=11) (N:=some 61) (bm_ 12 14) rfl rfl jA jB (fun K hK=>?_);refine value_ (w1:=?_) (v:=?_) (by rfl) rfl ?_ ?_;rotate_left 2
    ·
     go_simp
     constructor
     ·
      rfl
     rfl
    refine hK.out _ _ ⟨(zz (zD H0_2.out (za hb8 _)) 0).trans rfl,(Below.cell (za hb8 _) GL2.out).trans HEX2.out,(zz (zD H1_2.out (za hb8 _)) 0).trans rfl,(zz (zD H1_2.out (za hb8 _)) 1).trans rfl⟩ (fun hHeld=>?_);clear hK K;refine norm_ (a':=?_) ?_ ?_;rotate_left
    ·
     show Act.put _ (some 61) _=_
     simp only [Act.put,zi,zj,zk,zG,zH]
     rfl
    exact norm_ jt (hCont (va,wa.heap.size) _ ⟨zm hRa _,blk_new wa _,(fun he=>Nat.lt_irrefl _ (Kd.R_lt hRa _ he.symm)),za hb8 _⟩)
   skip
   refine value_ (w1:=?_) (v:=?_) (by rfl) rfl ?_ ?_;rotate_left 2
   ·
    go_simp
    constructor
    ·
     rfl
    rfl
   refine hK.out _ _ ⟨(zz (zD H0_2.out (za (Below.refl w2.heap.size w2) _)) 0).trans rfl,(Below.cell (za (Below.refl w2.heap.size w2) _) GL2.out).trans HEX2.out,(zz (zD H1_2.out (za (Below.refl w2.heap.size w2) _)) 0).trans rfl,(zz (zD H1_2.out (za (Below.refl w2.heap.size w2) _)) 1).trans rfl⟩ (fun hHeld=>?_);clear hK K;refine norm_ (a':=?_) ?_ ?_;rotate_left
   ·
    show Act.put _ (some 61) _=_
    simp only [Act.put,zi,zj,zk,zG,zH]
    rfl
   refine one_ (i:=8) (N:=some 58) (bm_ 12 14) rfl rfl jA jB (fun K hK=>?_);refine goes_ Try.func54 jA rfl #[.slice Ae l.length ke] (by rfl) rfl rfl jAC ?_
   with_reducible refine (Fu.cl Ae ke l.length l _ rfl (Kd.F_now (Kd.F_below HFE2.out (za (Below.refl w2.heap.size w2) _))) HLE.out jA7).mono ?_
   rintro e wa ⟨va,rfl,hRa,hba_⟩;refine ⟨_,rfl,?_⟩;have hb8:=zC (za (Below.refl w2.heap.size w2) _) hba_;refine hK.out _ _ ⟨(zz (zD H0_2.out hb8) 0).trans rfl,(Below.cell hb8 GL2.out).trans HEX2.out,(zz (zD H1_2.out hb8) 0).trans rfl,(zz (zD H1_2.out hb8) 1).trans rfl⟩ (fun hHeld=>?_);clear hK K;refine norm_ (a':=?_) ?_ ?_;rotate_left
   ·
    show Act.put _ (some 58) _=_
    simp only [Act.put,zi,zj,zk,zG,zH]
    rfl
   exact norm_ jt (hCont (va,w2.heap.size) _ ⟨yx hRa (za (Below.refl w2.heap.size w2) _).size,zD (blk_new w2 _) hba_,(fun he=>Nat.lt_irrefl _ (Nat.lt_of_lt_of_le (yi (blk_new w2 _)) (Kd.R_base hRa _ he.symm))),hb8⟩)
  rintro ⟨va,gl⟩ wt ⟨hRa,hlit,hne,hbt⟩;have hHeld : wt.cell? ⟨gb,0,none⟩=some (.slice (some ⟨g,0,none⟩) L.length c)∧wt.cell? ⟨g,pg.toNat*2+1,none⟩=some (.slice Ae l.length ke)∧wt.cell? ⟨ge,0,none⟩=some (.string key)∧wt.cell? ⟨ge,1,none⟩=some (.int .i64 id):=⟨(zz (zD H0_2.out hbt) 0).trans rfl,(Below.cell hbt GL2.out).trans HEX2.out,(zz (zD H1_2.out hbt) 0).trans rfl,(zz (zD H1_2.out hbt) 1).trans rfl⟩;refine norm_ (a':=?_) ?_ ?_;rotate_left
  ·
   simp only [putAll,Act.put,zi,zj,zk]
   rfl
  refine last_ (i:=12) (N:=some 62) (bm_ 13 14) rfl rfl jA jB (fun K hK=>?_);refine goes_ Try.func56 jA rfl #[va,.int .i64 (im : Int),.slice (some ⟨gl,0,none⟩) 1 1] (by rfl) rfl rfl jAC ?_
  with_reducible refine (slices_Insert_entries.ins2 (fun _=>True) (fun _=>False) w2.heap.size va l (⟨key,id⟩ : S28) [.string key,.int .i64 id] gl im w2 _ HIL.out hRa hlit hne (k28_mkM _ _ _ (⟨key,id⟩ : S28)) (fun x cs h9=>Fu.K_M x cs h9) (fun _ h9=>h9.elim) (fun _ _=>trivial) hbt hbt.size jA7).mono ?_
  rintro e we ⟨ve,rfl,hRe,hbe,-,-⟩;refine ⟨_,rfl,?_⟩;rw [← HX.out] at hRe;obtain ⟨A2,c2,rfl⟩:=yk hRe;refine hK.out _ _ ?_;clear hK K;refine norm_ (a':=?_) ?_ ?_;rotate_left
  ·
   show Act.put _ (some 62) _=_
   simp only [Act.put,zi,zj,zk,zG,zH]
   rfl
  refine pure_ (i:=13) (N:=some 10) (v:=?_) (a':=?_) (bm_ 14 14) rfl rfl jA (fun _ _ _ h=>h) (Or.inl ⟨by rfl,?_⟩) ?_ ?_;rotate_left;exact jb;rotate_left;exact jc
  refine done_ jA ?_;have HB3:=zh (zC HB2.out hbe);have H0_3:=zh (zD H0_2.out hbe);have HN3:=zh (Kd.N_below HN2.out hbe);have HFX : Aside0 (Kd.F k28 we (fun k_=>w2.heap.size≤k_) A2 X.length X):=⟨Kd.F_mono (Kd.R_F (Kd.R_bound hRe)) (fun _ hk=>hk.2.1)⟩;have HXC:=zh (yh hRe).2.1;have L23 : Aside0 (w2.heap.size≤we.heap.size):=⟨hbe.size⟩;have GBW : Aside0 (w0.heap.size≤gb):=⟨hg⟩;clear hRa hlit hne hbt hRe hbe HB2 H0_2 H1_2 HN2 HFE2 HEX2 e1 e1n e2 e2n e3;have k0:=zz H0_3.out 0;have k1:=zz H0_3.out 1;have f1:=zA H0_3.out 1;have hw18:=HNW.out;have HB4 : Aside0 (Below w0.heap.size w0 (we.setCell ⟨gb,1,none⟩ (.int .i64 (nx+1)))):=⟨zd HB3.out GBW.out⟩;have H0_4 : Aside0 ((we.setCell ⟨gb,1,none⟩ (.int .i64 (nx+1))).heap[gb]? = some (.cells #[.slice (some ⟨g,0,none⟩) L.length c,.int .i64 (nx+1)] 25 (0,0))):=⟨blk_set H0_3.out 1 _⟩;have HN4 : Aside0 (Kd.N k60 60 (we.setCell ⟨gb,1,none⟩ (.int .i64 (nx+1))) w0.heap.size (fun k_=>w0.heap.size≤k_∧k_≠gb) (.slice (some ⟨g,0,none⟩) L.length c) L):=⟨Kd.N_far (p:=⟨gb,1,none⟩) HN3.out (fun _ hk=>hk.2) _⟩;have HFX4 : Aside0 (Kd.F k28 (we.setCell ⟨gb,1,none⟩ (.int .i64 (nx+1))) (fun k_=>w2.heap.size≤k_) A2 X.length X):=⟨Kd.F_far (p:=⟨gb,1,none⟩) HFX.out (fun k_ hk e9=>by rw [e9] at hk;exact Nat.lt_irrefl _ (Nat.lt_of_lt_of_le GB2.out hk)) _⟩;have L24 : Aside0 (w2.heap.size≤(we.setCell ⟨gb,1,none⟩ (.int .i64 (nx+1))).heap.size):=⟨by simp;exact L23.out⟩
  go_upto_region 13 with (fail)
  clear k0 k1 f1 hw18 HB3 H0_3 HN3 HFX L23;generalize (we.setCell ⟨gb,1,none⟩ (.int .i64 (nx+1)))=w4 at *;have hi4 : (0 : Int)≤(2 : Int):=by decide
  have hi5 : (2 : Int)≤(X.length : Int):=by have:=X5.out;omega
  obtain ⟨i0_,hi0_,_,hsz_,_⟩:=info_parts info28;have hcut1:=cut_to (P:=Try.prog) 33 28 .i64 Try.underlying33 hi0_ A2 X.length c2 (2 : Int) hi4 hi5 HXC.out;have hcut2:=cut_from (P:=Try.prog) 33 28 .i64 Try.underlying33 hi0_ 2 hsz_ A2 X.length c2 (2 : Int) hi4 hi5;rw [show (2 : Int).toNat=2 from rfl] at hcut1 hcut2;obtain ⟨A3,hA3⟩ : ∃ A3,A3=(if c2=2 then A2 else A2.map (·.add (2*2))):=⟨_,rfl⟩;rw [← hA3] at hcut2;have HA3:=zh hA3;obtain ⟨X1,hX1⟩ : ∃ X1 : List S28,X1=X.take 2:=⟨_,rfl⟩;obtain ⟨X2,hX2⟩ : ∃ X2 : List S28,X2=X.drop 2:=⟨_,rfl⟩;have x2X : 2≤X.length:=by have:=X5.out;omega
  have X1L : Aside0 (2=X1.length):=⟨by rw [hX1,zx];omega⟩;have X2L : Aside0 (X.length - 2=X2.length):=⟨by rw [hX2,zw]⟩;have X2C : Aside0 (X.length - 2≤c2 - 2):=⟨by have:=HXC.out;omega⟩;have hC1:=Kd.F_imp HFX4.out (fun _ hC=>Kd.C_take (m:=2) hC x2X);have hC2:=Kd.F_imp HFX4.out (fun _ hC=>Kd.C_drop (c:=c2) (m:=2) hC x2X HXC.out);rw [← hX1] at hC1;rw [← hX2] at hC2;have HC1:=zh (Kd.F_drew hC1);have HC2 : Aside0 (Kd.F k28 w4.drew (fun k_=>w2.heap.size≤k_) A3 X2.length X2):=⟨Kd.F_drew (by rw [hA3];exact hC2)⟩;have C22 : Aside0 (2≤c2):=⟨Nat.le_trans x2X HXC.out⟩;have HB5:=zh (zc HB4.out);have H0_5:=zh (zf H0_4.out);have HN5:=zh (Kd.N_drew HN4.out);have L25 : Aside0 (w2.heap.size≤w4.drew.heap.size):=⟨L24.out⟩;have HX1:=zh hX1;have HX2:=zh hX2;clear hC1 hC2 hA3 hi0_ hsz_ hX1 hX2 x2X;refine start_ (n:=11) (S:=fun w' => w'.cell? ⟨gb,0,none⟩=some (.slice (some ⟨g,0,none⟩) L.length c)) (ds:=[10]) (bm_ 0 11) jA rfl rfl ((zz H0_5.out 0).trans rfl) (fun hHeld=>?_);generalize w4.drew=w5 at HB5 H0_5 HN5 HC1 HC2 L25 hHeld ⊢;clear HB4 H0_4 HN4 HFX4 L24;refine pure_ (i:=0) (N:=some 84) (v:=?_) (a':=?_) (bm_ 1 11) rfl rfl jA (fun _ _ _ h=>h) (Or.inl ⟨by rfl,?_⟩) ?_ ?_;rotate_left;exact jb;rotate_left;exact jc
  refine pure_ (i:=1) (N:=some 85) (v:=?_) (a':=?_) (bm_ 2 11) rfl rfl jA (fun _ _ _ h=>h) (Or.inl ⟨by rfl,?_⟩) ?_ ?_;rotate_left;exact jb;rotate_left;exact jc
  refine pure_ (i:=2) (N:=some 86) (v:=?_) (a':=?_) (bm_ 3 11) rfl rfl jA (fun _ _ _ h=>h) (Or.inl ⟨by rfl,?_⟩) ?_ ?_;rotate_left;exact jb;rotate_left;exact jc
  refine pure_ (i:=4) (N:=some 88) (v:=?_) (a':=?_) #[true,true,true,false,true,false,false,false,false,false,false] rfl rfl jA (fun _ _ _ h=>h) (Or.inl ⟨by rfl,?_⟩) ?_ ?_;rotate_left;exact jb;rotate_left;exact jc
  refine pure_ (i:=5) (N:=some 89) (v:=?_) (a':=?_) #[true,true,true,false,true,true,false,false,false,false,false] rfl rfl jA (fun _ _ _ h=>h) (Or.inl ⟨by rfl,?_⟩) ?_ ?_;rotate_left;exact jb;rotate_left;exact jc
  refine pure_ (i:=6) (N:=some 90) (v:=?_) (a':=?_) #[true,true,true,false,true,true,true,false,false,false,false] rfl rfl jA (fun _ _ _ h=>h) (Or.inl ⟨by rfl,?_⟩) ?_ ?_;rotate_left;exact jb;rotate_left;exact jc
  refine take_ (i:=3) (N:=some 87) (v:=?_) (a':=?_) (bm_ 7 11) rfl rfl jA (fun _ _ _ h=>h) (Or.inl ⟨by rfl,?_⟩) hHeld ?_ ?_;rotate_left
  ·
   intro w' s0
   go_simp
   with_reducible rfl
  rotate_left
  exact jc
  refine one_ (i:=7) (N:=some 91) (bm_ 8 11) rfl rfl jA jB (fun K hK=>?_);refine goes_ Try.func54 jA rfl #[.slice A2 2 c2] (by rfl) rfl rfl jAC ?_
  with_reducible refine (Fu.cl A2 c2 2 X1 _ X1L.out (Kd.F_now HC1.out) (by have:=C22.out;have:=X1L.out;omega) (by have:=X1L.out;omega)).mono ?_
  rintro e wb ⟨vb,rfl,hRb,hbb⟩;refine ⟨_,rfl,?_⟩;obtain ⟨Am,cm,rfl⟩:=yk hRb;obtain ⟨ce,hcl_,hFK_,hcc_,hfr_⟩:=Kd.N_elem (Kd.N_below HN5.out hbb) z60 pg hp0 HP1.out;obtain ⟨A9,c9,rfl,-,-⟩:=k60_openF hFK_;have q9 : wb.cell? ⟨g,pg.toNat*2+1,none⟩=some (.slice A9 (rd_T60 L pg).f1.length c9):=hcc_ 1 _ rfl;have f9 : wb.frozen? ⟨g,pg.toNat*2+1,none⟩=false:=hfr_ 1;refine hK.out _ _ ((zz (zD H0_5.out hbb) 0).trans rfl) (fun hHeld=>?_);clear hK K;refine norm_ (a':=?_) ?_ ?_;rotate_left
  ·
   show Act.put _ (some 91) _=_
   simp only [Act.put,zi,zj,zk,zG,zH]
   rfl
  refine pure_ (i:=8) (N:=some 92) (v:=?_) (a':=?_) (bm_ 9 11) rfl rfl jA (fun _ _ _ h=>h) (Or.inl ⟨by rfl,?_⟩) ?_ ?_;rotate_left;exact jb;rotate_left;exact jc
  refine pure_ (i:=9) (N:=some 93) (v:=?_) (a':=?_) (bm_ 10 11) rfl rfl jA (fun _ _ _ h=>h) (Or.inl ⟨by rfl,?_⟩) ?_ ?_;rotate_left;exact jb;rotate_left;exact jc
  refine last_ (i:=10) (N:=none) (bm_ 11 11) rfl rfl jA jB (fun K hK=>?_);refine skip_ (w1:=?_) (by rfl) rfl ?_ ?_;rotate_left
  ·
   go_simp
   rfl
  refine hK.out _ _ ?_;clear hK K;refine done_ jA ?_
  obtain ⟨hN6,-⟩ : Kd.N k60 60 (wb.setCell ⟨g,pg.toNat*2+1,none⟩ (.slice Am X1.length cm)) w0.heap.size (fun k_=>w0.heap.size≤k_∧k_≠gb) (.slice (some ⟨g,0,none⟩) L.length c) (L.set pg.toNat (⟨(rd_T60 L pg).f0,X1⟩ : S60))∧wb.grownBy (wb.setCell ⟨g,pg.toNat*2+1,none⟩ (.slice Am X1.length cm)) (some g) :=
   Kd.N_seg (Kd.N_below HN5.out hbb) pg hp0 HP1.out (c:=[.int .i64 (rd_T60 L pg).f0,.slice A9 (rd_T60 L pg).f1.length c9]) (seg:=[.slice Am X1.length cm]) (j:=1) rfl hcc_ (show 1+1≤2 from by decide) (x':=(⟨(rd_T60 L pg).f0,X1⟩ : S60)) (okp:=fun k_=>w5.heap.size≤k_) (k60_mkF wb _ (⟨(rd_T60 L pg).f0,X1⟩ : S60) (yh hRb).2.1 (Kd.F_mono (Kd.R_F (Kd.R_bound hRb)) (fun _ hk=>hk.2.1))) (fun k_ hk=>⟨⟨Nat.le_trans GW.out (Nat.le_trans (Nat.le_of_lt GL2.out) (Nat.le_trans L25.out hk)),fun e9=>by rw [e9] at hk;exact Nat.lt_irrefl _ (Nat.lt_of_lt_of_le GB2.out (Nat.le_trans L25.out hk))⟩,fun e9=>by rw [e9] at hk;exact Nat.lt_irrefl _ (Nat.lt_of_lt_of_le GL2.out (Nat.le_trans L25.out hk))⟩)
  rw [← HQ.out] at hN6;have HN6:=zh hN6;have HC6 : Aside0 (Kd.F k28 (wb.setCell ⟨g,pg.toNat*2+1,none⟩ (.slice Am X1.length cm)) (fun k_=>w2.heap.size≤k_) A3 X2.length X2):=⟨Kd.F_far (p:=⟨g,_,none⟩) (Kd.F_below HC2.out hbb) (fun k_ hk e9=>by rw [e9] at hk;exact Nat.lt_irrefl _ (Nat.lt_of_lt_of_le GL2.out hk)) _⟩;have HB6 : Aside0 (Below w0.heap.size w0 (wb.setCell ⟨g,pg.toNat*2+1,none⟩ (.slice Am X1.length cm))):=⟨zd (zC HB5.out hbb) GW.out⟩;have H0_6 : Aside0 ((wb.setCell ⟨g,pg.toNat*2+1,none⟩ (.slice Am X1.length cm)).heap[gb]? = some (.cells #[.slice (some ⟨g,0,none⟩) L.length c,.int .i64 (nx+1)] 25 (0,0))):=⟨(Below.heap_setCell _ ⟨g,_,none⟩ _ gb GBG.out).trans (zD H0_5.out hbb)⟩;have L26 : Aside0 (w2.heap.size≤(wb.setCell ⟨g,pg.toNat*2+1,none⟩ (.slice Am X1.length cm)).heap.size):=⟨by simp;exact Nat.le_trans L25.out hbb.size⟩;clear hN6 hRb hbb hcl_ hFK_ hcc_ hfr_ q9 f9 HB5 H0_5 HN5 HC1 HC2 L25 hcut1;generalize (wb.setCell ⟨g,pg.toNat*2+1,none⟩ (.slice Am X1.length cm))=w6 at *
  go_wp2_with fail
  have HB7:=zh (zc HB6.out);have H0_7:=zh (zf H0_6.out);have HN7:=zh (Kd.N_drew HN6.out);have HC7:=zh (Kd.F_drew HC6.out);have L27 : Aside0 (w2.heap.size≤w6.drew.heap.size):=⟨L26.out⟩;obtain ⟨j,hj⟩ : ∃ j : Nat,j=pg.toNat:=⟨_,rfl⟩;have hjp : pg=(j : Int):=by rw [hj];exact (Int.toNat_of_nonneg hp0).symm
  have hjL : j<L.length:=by have:=HP1.out;omega
  have hjw : IntKind.i64.wrap (pg+1)=((j+1 : Nat) : Int):=by rw [hjp,IntKind.wrap_i64];have:=HLm.out;omega
  obtain ⟨j2,hj2⟩ : ∃ j2 : Nat,j2=j+1:=⟨_,rfl⟩;rw [← hj2] at hjw;obtain ⟨Y,hY⟩ : ∃ Y : List S60,Y=L.set pg.toNat (⟨q,X1⟩ : S60):=⟨_,rfl⟩;have hYl : Y.length=L.length:=by rw [hY,List.length_set]
  have hjY : j2≤Y.length:=by rw [hj2,hYl];exact hjL
  rw [← hY] at HN7;have HJY:=zh hjY;have HYL:=zh hYl
  have HEND : Aside0 (Y.take j2 ++ [(⟨nx,X2⟩ : S60)]++Y.drop j2=L'):=⟨by
   have h9:=HL1.out;rw [← HX.out,← HX1.out,← HX2.out,← hY,← hj,← hj2] at h9
   exact h9⟩
  clear hY hYl hjY hjL hjp hj hj2;refine start_ (n:=17) (S:=fun w' => w'.cell? ⟨gb,0,none⟩=some (.slice (some ⟨g,0,none⟩) L.length c)) (ds:=[16]) (bm_ 0 17) jA rfl rfl ((zz H0_7.out 0).trans rfl) (fun hHeld=>?_);generalize w6.drew=w7 at HB7 H0_7 HN7 HC7 L27 hHeld ⊢;clear HB6 H0_6 HN6 HC6 L26;refine pure_ (i:=0) (N:=some 94) (v:=?_) (a':=?_) (bm_ 1 17) rfl rfl jA (fun _ _ _ h=>h) (Or.inl ⟨by rfl,?_⟩) ?_ ?_;rotate_left;exact jb;rotate_left;exact jc
  refine pure_ (i:=1) (N:=some 95) (v:=?_) (a':=?_) (bm_ 2 17) rfl rfl jA (fun _ _ _ h=>h) (Or.inl ⟨by rfl,?_⟩) ?_ ?_;rotate_left;exact jb;rotate_left;exact jc
  refine pure_ (i:=2) (N:=some 96) (v:=?_) (a':=?_) (bm_ 3 17) rfl rfl jA (fun _ _ _ h=>h) (Or.inl ⟨by rfl,?_⟩) ?_ ?_;rotate_left;exact jb;rotate_left;exact jc
  refine pure_ (i:=3) (N:=some 97) (v:=?_) (a':=?_) (bm_ 4 17) rfl rfl jA (fun _ _ _ h=>h) (Or.inl ⟨by rfl,?_⟩) ?_ ?_;rotate_left;exact jb;rotate_left;exact jc
  refine pure_ (i:=5) (N:=some 99) (v:=?_) (a':=?_) #[true,true,true,true,false,true,false,false,false,false,false,false,false,false,false,false,false] rfl rfl jA (fun _ _ _ h=>h) (Or.inl ⟨by rfl,?_⟩) ?_ ?_;rotate_left;exact jb;rotate_left;exact jc
  refine pure_ (i:=6) (N:=some 100) (v:=?_) (a':=?_) #[true,true,true,true,false,true,true,false,false,false,false,false,false,false,false,false,false] rfl rfl jA (fun _ _ _ h=>h) (Or.inl ⟨by rfl,?_⟩) ?_ ?_;rotate_left;exact jb;rotate_left;exact jc
  refine pure_ (i:=7) (N:=some 101) (v:=?_) (a':=?_) #[true,true,true,true,false,true,true,true,false,false,false,false,false,false,false,false,false] rfl rfl jA (fun _ _ _ h=>h) (Or.inl ⟨by rfl,?_⟩) ?_ ?_;rotate_left;exact jb;rotate_left;exact jc
  refine pure_ (i:=8) (N:=some 102) (v:=?_) (a':=?_) #[true,true,true,true,false,true,true,true,true,false,false,false,false,false,false,false,false] rfl rfl jA (fun _ _ _ h=>h) (Or.inl ⟨by rfl,?_⟩) ?_ ?_;rotate_left;exact jb;rotate_left;exact jc
  refine pure_ (i:=9) (N:=some 103) (v:=?_) (a':=?_) #[true,true,true,true,false,true,true,true,true,true,false,false,false,false,false,false,false] rfl rfl jA (fun _ _ _ h=>h) (Or.inl ⟨by rfl,?_⟩) ?_ ?_;rotate_left;exact jb;rotate_left;exact jc
  refine take_ (i:=4) (N:=some 98) (v:=?_) (a':=?_) (bm_ 10 17) rfl rfl jA (fun _ _ _ h=>h) (Or.inl ⟨by rfl,?_⟩) hHeld ?_ ?_;rotate_left
  ·
   intro w' s0
   go_simp
   with_reducible rfl
  rotate_left
  exact jc
  refine one_ (i:=10) (N:=some 104) (bm_ 11 17) rfl rfl jA jB (fun K hK=>?_);refine goes_ Try.func54 jA rfl #[.slice A3 (X.length - 2) (c2 - 2)] (by rfl) rfl rfl jAC ?_
  with_reducible refine (Fu.cl A3 (c2 - 2) (X.length - 2) X2 _ X2L.out (Kd.F_now HC7.out) (by have:=X2L.out;have:=X2C.out;omega) (by have:=X2L.out;have:=X5.out;omega)).mono ?_
  rintro e wb ⟨vb,rfl,hRb,hbb⟩;refine ⟨_,rfl,?_⟩;obtain ⟨Aq,cq,rfl⟩:=yk hRb;refine hK.out _ _ ((zz (zD H0_7.out hbb) 0).trans rfl) (fun hHeld=>?_);clear hK K;refine norm_ (a':=?_) ?_ ?_;rotate_left
  ·
   show Act.put _ (some 104) _=_
   simp only [Act.put,zi,zj,zk,zG,zH]
   rfl
  refine pure_ (i:=11) (N:=some 105) (v:=?_) (a':=?_) (bm_ 12 17) rfl rfl jA (fun _ _ _ h=>h) (Or.inl ⟨by rfl,?_⟩) ?_ ?_;rotate_left;exact jb;rotate_left;exact jc
  refine one_ (i:=12) (N:=some 106) (bm_ 13 17) rfl rfl jA jB (fun K hK=>?_);refine value_ (w1:=?_) (v:=?_) (by rfl) rfl ?_ ?_;rotate_left 2
  ·
   go_simp
   constructor
   ·
    rfl
   rfl
  refine hK.out _ _ ((zz (zD H0_7.out (za hbb _)) 0).trans rfl) (fun hHeld=>?_);clear hK K;refine norm_ (a':=?_) ?_ ?_;rotate_left
  ·
   show Act.put _ (some 106) _=_
   simp only [Act.put,zi,zj,zk,zG,zH]
   rfl
  refine one_ (i:=13) (N:=some 107) (bm_ 14 17) rfl rfl jA jB (fun K hK=>?_);refine goes_ Try.func57 jA rfl #[.slice (some ⟨g,0,none⟩) L.length c,.int .i64 (j2 : Int),.slice (some ⟨wb.heap.size,0,none⟩) 1 1] (by rfl) rfl rfl jAC ?_
  with_reducible refine (slices_Insert_pages.insN (fun k_=>w0.heap.size≤k_∧k_≠gb) (fun k_=>w7.heap.size≤k_∧k_<wb.heap.size) w0.heap.size (.slice (some ⟨g,0,none⟩) L.length c) Y (⟨nx,X2⟩ : S60) [.int .i64 nx,.slice Aq X2.length cq] wb.heap.size j2 w0 _ HJY.out (Kd.N_below HN7.out (za hbb _)) (blk_new wb _) (fun e9=>by simp [Value.ownBlock] at e9;have h9:=GL2.out;have h8:=Nat.le_trans L27.out hbb.size;omega) (k60_mkF _ _ (⟨nx,X2⟩ : S60) (yh hRb).2.1 (Kd.F_below (Kd.F_mono (Kd.R_F (Kd.R_bound hRb)) (fun _ hk=>⟨hk.2.1,hk.2.2.1⟩)) (za (Below.refl _ _) _))) (fun q9 hk=>⟨⟨Nat.le_trans GW.out (Nat.le_trans (Nat.le_of_lt GL2.out) (Nat.le_trans L27.out hk.1)),fun e9=>by have h9:=hk.1;rw [e9] at h9;exact absurd (Nat.lt_of_lt_of_le GB2.out (Nat.le_trans L27.out h9)) (Nat.lt_irrefl _)⟩,fun e9=>by simp [Value.ownBlock] at e9;have h9:=hk.1;rw [e9] at h9;exact absurd (Nat.lt_of_lt_of_le GL2.out (Nat.le_trans L27.out h9)) (Nat.lt_irrefl _)⟩) (fun q9 hk=>⟨Nat.le_trans (Nat.le_trans (Nat.le_trans GW.out (Nat.le_of_lt GL2.out)) (Nat.le_trans L27.out hbb.size)) (Nat.le_trans (za (Below.refl _ _) _).size hk),fun e9=>by rw [e9] at hk;exact absurd (Nat.lt_of_lt_of_le GB2.out (Nat.le_trans (Nat.le_trans L27.out hbb.size) (Nat.le_trans (za (Below.refl _ _) _).size hk))) (Nat.lt_irrefl _)⟩) (zC HB7.out (za hbb _)) (zC HB7.out (za hbb _)).size (by have:=HYL.out;have:=HLm.out;omega)).mono ?_
  rintro e wd ⟨vd,rfl,hNd,hBd,hgd⟩;refine ⟨_,rfl,?_⟩;rw [HEND.out] at hNd;obtain ⟨A9,c9,rfl⟩:=Kd.N_slice hNd;have hbd : wd.heap[gb]? = some (.cells #[.slice (some ⟨g,0,none⟩) L.length c,.int .i64 (nx+1)] 25 (0,0)):=(hgd.block gb (yi (zg (zD H0_7.out hbb) _)) (fun e9=>by simp [Value.ownBlock] at e9;exact GBG.out e9)).trans (zg (zD H0_7.out hbb) _);have q9:=(zz hbd 0).trans (show _=some (.slice (some ⟨g,0,none⟩) L.length c) from rfl);have f9:=zA hbd 0;refine hK.out _ _ ((zz hbd 0).trans rfl) (fun hHeld=>?_);clear hK K;refine norm_ (a':=?_) ?_ ?_;rotate_left
  ·
   show Act.put _ (some 107) _=_
   simp only [Act.put,zi,zj,zk,zG,zH]
   rfl
  refine pure_ (i:=14) (N:=some 108) (v:=?_) (a':=?_) (bm_ 15 17) rfl rfl jA (fun _ _ _ h=>h) (Or.inl ⟨by rfl,?_⟩) ?_ ?_;rotate_left;exact jb;rotate_left;exact jc
  refine pure_ (i:=15) (N:=some 109) (v:=?_) (a':=?_) (bm_ 16 17) rfl rfl jA (fun _ _ _ h=>h) (Or.inl ⟨by rfl,?_⟩) ?_ ?_;rotate_left;exact jb;rotate_left;exact jc
  refine last_ (i:=16) (N:=none) (bm_ 17 17) rfl rfl jA jB (fun K hK=>?_);refine skip_ (w1:=?_) (by rfl) rfl ?_ ?_;rotate_left
  ·
   go_simp
   rfl
  refine hK.out _ _ ?_;clear hK K;refine done_ jA ?_;have HN8 : Aside0 (Kd.N k60 60 (wd.setCell ⟨gb,0,none⟩ (.slice A9 L'.length c9)) w0.heap.size (fun k_=>w0.heap.size≤k_∧k_≠gb) (.slice A9 L'.length c9) L'):=⟨Kd.N_far (p:=⟨gb,0,none⟩) hNd (fun _ hk=>hk.2) _⟩;have HB8 : Aside0 (Below w0.heap.size w0 (wd.setCell ⟨gb,0,none⟩ (.slice A9 L'.length c9))):=⟨zd hBd GBW.out⟩;have H0_8 : Aside0 ((wd.setCell ⟨gb,0,none⟩ (.slice A9 L'.length c9)).heap[gb]? = some (.cells #[.slice A9 L'.length c9,.int .i64 (nx+1)] 25 (0,0))):=⟨blk_set hbd 0 _⟩;clear hNd hBd hgd hbd q9 f9 hcut2
  go_wp2_with fail
  go_ret2
  first|exact ⟨rfl,_,H0_8.out,HN8.out,HB8.out⟩|exact ⟨_,rfl,H0_8.out,HN8.out,HB8.out⟩

def Fs.f (k : Nat) (l0_0 : List (S60)) (a0_1 : Int) (a1_0 : ByteArray) (a1_1 : Int) : Option ((List (S60))×Int×Int×Int):=(F3.f k l0_0 a0_1).bind fun t=>(if t=true then ((F08.f a1_0 a1_1).bind fun u=>(if u=true then ((Fh.f k l0_0 a0_1).bind fun c=>((Fu.f k c.1 c.2 a1_0 a1_1).bind fun d=>((Fh.f k d.2.2.1 d.2.2.2).bind fun z=>some (z.1,z.2,d.1,d.2.1)))) else (some (([] : List S60),0,0,1)))) else (some (([] : List S60),0,0,1)))
theorem Fs.mono : ∀ a0 a1 a2 a3 k,LeO (Fs.f k a0 a1 a2 a3) (Fs.f (k+1) a0 a1 a2 a3):=by
 intro a0 a1 a2 a3 k;unfold Fs.f;refine zO (F3.mono _ _ _) (fun _=>zP (zO (zQ _) (fun _=>zP (zO (Fh.mono _ _ _) (fun _=>zO (Fu.mono _ _ _ _ _) (fun _=>zO (Fh.mono _ _ _) (fun _=>zQ _)))) (zQ _))) (zQ _))
theorem Fs.three (w : World) (o0 o1 o2 : Obj) : (((w.alloc o0).alloc o1).alloc o2).heap[w.heap.size]? = some o0∧(((w.alloc o0).alloc o1).alloc o2).heap[w.heap.size+1]? = some o1∧(((w.alloc o0).alloc o1).alloc o2).heap[w.heap.size+1+1]? = some o2∧Below w.heap.size w (((w.alloc o0).alloc o1).alloc o2):=by
 refine ⟨zg (zg (blk_new w _) _) _,zg ?_ _,?_,za (za (za (Below.refl _ _) _) _) _⟩
 ·
  have:=blk_new (w.alloc o0) o1
  simpa using this
 have:=blk_new ((w.alloc o0).alloc o1) o2
 simpa using this
set_option maxHeartbeats 8000000 in
set_option maxRecDepth 100000 in
theorem Fs.calls (k : Nat) (A0_0 : Option Addr) (c0_0 : Nat) (l0_0 : List (S60)) (a0_1 : Int) (a1_0 : ByteArray) (a1_1 : Int) (r1 : List (S60)) (r2 : Int) (r3 : Int) (r4 : Int) (w : World) (hr0_0 : Kd.C k60 w A0_0 l0_0.length l0_0) (hc0_0 : l0_0.length≤c0_0) (h : Fs.f k l0_0 a0_1 a1_0 a1_1=some (r1,r2,r3,r4)) :
  Calls Try.prog 14 #[.agg #[.slice A0_0 l0_0.length c0_0,.int .i64 a0_1],.agg #[.string a1_0,.int .i64 a1_1]] w fun e w' => ∃ v0_ : Value,e = .returned (.tuple #[.agg #[v0_,.int .i64 r2],.int .i64 r3,.int .i64 r4])∧Kd.S k60 60 w' w.heap.size (fun _=>True) v0_ r1∧Below w.heap.size w w':=by
 have hu35:=Try.underlying25;have hu51:=Try.underlying28;unfold Fs.f at h;obtain ⟨t,hT,h⟩:=zT.mp h;obtain ⟨V,hV⟩ : ∃ V,V=((w.alloc (.cells #[.slice A0_0 l0_0.length c0_0,.int .i64 a0_1] 25)).alloc (.cells #[.string a1_0,.int .i64 a1_1] 28)).alloc (.cells #[.slice none 0 0,.int .i64 0] 25):=⟨_,rfl⟩;obtain ⟨h0,h1,h2,hBV⟩:=Fs.three w (.cells #[.slice A0_0 l0_0.length c0_0,.int .i64 a0_1] 25) (.cells #[.string a1_0,.int .i64 a1_1] 28) (.cells #[.slice none 0 0,.int .i64 0] 25);rw [← hV] at h0 h1 h2 hBV;obtain ⟨g0,hg0⟩ : ∃ g,g=w.heap.size:=⟨_,rfl⟩;rw [← hg0] at h0 h1 h2;obtain ⟨g1,hg1⟩ : ∃ g,g=g0+1:=⟨_,rfl⟩;rw [← hg1] at h1 h2;obtain ⟨g2,hg2⟩ : ∃ g,g=g1+1:=⟨_,rfl⟩;rw [← hg2] at h2;have hbase : w.heap.size≤g2:=by rw [hg2,hg1,hg0,Nat.add_assoc];exact Nat.le_add_right _ _
 have H0 : Aside0 (V.heap[g0]? = some (.cells #[.slice A0_0 l0_0.length c0_0,.int .i64 a0_1] 25 (0,0))):=⟨h0⟩;have H1 : Aside0 (V.heap[g1]? = some (.cells #[.string a1_0,.int .i64 a1_1] 28 (0,0))):=⟨h1⟩;have H2 : Aside0 (V.heap[g2]? = some (.cells #[.slice none 0 0,.int .i64 0] 25 (0,0))):=⟨h2⟩;have HB:=zh hBV;have HC:=zh (Kd.C_below hr0_0 hBV);clear h0 h1 h2 hBV hr0_0
 have hcells : ∀ W1,Below V.heap.size V W1→(W1.cell? ⟨g0,0,none⟩=some (.slice A0_0 l0_0.length c0_0)∧W1.cell? ⟨g0,1,none⟩=some (.int .i64 a0_1)∧W1.cell? ⟨g1,0,none⟩=some (.string a1_0)∧W1.cell? ⟨g1,1,none⟩=some (.int .i64 a1_1)) :=
  fun W1 hb=>⟨(zz (zD H0.out hb) 0).trans rfl,(zz (zD H0.out hb) 1).trans rfl,(zz (zD H1.out hb) 0).trans rfl,(zz (zD H1.out hb) 1).trans rfl⟩
 obtain ⟨k0,k1,-,-⟩:=hcells V (Below.refl _ _);have HCE:=zh hcells;clear hcells
 -- an early answer
 have early : ∀ W1,Below V.heap.size V W1→W1.heap[g2]? = some (.cells #[.slice none 0 0,.int .i64 0] 25 (0,0))∧Below w.heap.size w W1:=fun W1 hb=>⟨zD H2.out hb,zC HB.out hb⟩;have HEA:=zh early;clear early
 go_enter Try.func14,Try.ntmps14
 go_wp2_with fail
 rw [← hV];simp only [← hg0];simp only [← hg1];simp only [← hg2];clear hV hg0 hg1 hg2
 go_at_call 20
 refine (F3.calls k A0_0 c0_0 l0_0 a0_1 t V HC.out hc0_0 hT).mono ?_;rintro e w1 ⟨rfl,hb1⟩;have HB1:=zh hb1;clear hb1 hT k0 k1
 cases t with
 | false =>
  rw [if_neg jB] at h;simp only [Option.some.injEq,Prod.mk.injEq] at h;obtain ⟨rfl,rfl,rfl,rfl⟩:=h;obtain ⟨hz,hbz⟩:=HEA.out w1 HB1.out;have q0:=zz hz 0;have q1:=zz hz 1;have f0:=zA hz 0;have f1:=zA hz 1
  go_wp2_with fail
  refine bodyPost_ret (results_ctt rfl _ _ g2 25 #[.slice none 0 0,.int .i64 0] (0,0) _ rfl (blk_set (blk_set hz 0 (.slice none 0 0)) 1 (.int .i64 0)) hu35 rfl jA) rfl ?_;exact ⟨_,rfl,Kd.S_nil _ _ _ _ _,zd (zd hbz hbase) hbase⟩
 | true =>
  rw [if_pos rfl] at h;obtain ⟨u,hU,h⟩:=zT.mp h;obtain ⟨-,-,k2,k3⟩:=HCE.out w1 HB1.out
  go_wp2_with fail
  go_at_call 32
  refine (F08.calls a1_0 a1_1 u w1 hU).mono ?_;rintro e w2 ⟨rfl,hb2⟩;have HB2:=zh (zC HB1.out hb2);clear hb2 hU k2 k3 HB1
  cases u with
  | false =>
   rw [if_neg jB] at h;simp only [Option.some.injEq,Prod.mk.injEq] at h;obtain ⟨rfl,rfl,rfl,rfl⟩:=h;obtain ⟨hz,hbz⟩:=HEA.out w2 HB2.out;have q0:=zz hz 0;have q1:=zz hz 1;have f0:=zA hz 0;have f1:=zA hz 1
   go_wp2_with fail
   refine bodyPost_ret (results_ctt rfl _ _ g2 25 #[.slice none 0 0,.int .i64 0] (0,0) _ rfl (blk_set (blk_set hz 0 (.slice none 0 0)) 1 (.int .i64 0)) hu35 rfl jA) rfl ?_;exact ⟨_,rfl,Kd.S_nil _ _ _ _ _,zd (zd hbz hbase) hbase⟩
  | true =>
   rw [if_pos rfl] at h;obtain ⟨⟨L1,n1⟩,hK,h⟩:=zT.mp h;obtain ⟨⟨d1,d2,L2,n2⟩,hD,h⟩:=zT.mp h;obtain ⟨⟨L3,n3⟩,hK2,h⟩:=zT.mp h;simp only at hD hK2 h;simp only [Option.some.injEq,Prod.mk.injEq] at h;obtain ⟨rfl,rfl,rfl,rfl⟩:=h;obtain ⟨k0,k1,-,-⟩:=HCE.out w2 HB2.out
   go_wp2_with fail
   go_at_call 33
   refine (Fh.calls k A0_0 c0_0 l0_0 a0_1 L1 n1 w2 (Kd.C_below HC.out HB2.out) hc0_0 hK).mono ?_;rintro e w3 ⟨v3,rfl,hS3,hb3⟩;have HB3:=zh hb3;have HS3:=zh hS3;obtain ⟨A3,c3,rfl⟩:=Kd.S_slice hS3;clear hS3 hb3 hK k0 k1;obtain ⟨-,-,k2,k3⟩:=HCE.out (w3.alloc (.cells #[.slice A3 L1.length c3,.int .i64 n1] 25)) (za (zC HB2.out HB3.out) _);have HN3 : Aside0 (Kd.N k60 60 w3 w2.heap.size (fun k_=>w2.heap.size≤k_∧k_≠w3.heap.size) (.slice A3 L1.length c3) L1):=⟨Kd.N_mono (Kd.S_N (Kd.S_bound HS3.out)) (fun _ hk=>⟨hk.2.1,yc hk.2.2.1⟩)⟩
   go_wp2_with fail
   go_at_call 34
   refine (Fu.calls k w3.heap.size (.slice A3 L1.length c3) L1 n1 a1_0 a1_1 d1 d2 L2 n2 w2 _ (za HB3.out _) (blk_new w3 _) HB3.out.size (Kd.N_alloc HN3.out _) hD).mono ?_;rintro e w5 ⟨pv,rfl,hb5,hS5,hB5⟩;have hz : w5.heap[g2]? = some (.cells #[.slice none 0 0,.int .i64 0] 25 (0,0)):=zD (HEA.out w2 HB2.out).1 hB5;have hbz : Below w.heap.size w w5:=zC (HEA.out w2 HB2.out).2 hB5;obtain ⟨A5,c5,rfl⟩:=Kd.N_slice hS5;have HC5:=zh (Kd.N_reads' hS5);have HZ:=zh hz;have HBZ:=zh hbz;have p0:=zz hb5 0;have p1:=zz hb5 1;clear hS5 hB5 hD hb5 k2 k3 HS3 HB3 hz hbz HN3
   go_wp2_with fail
   go_at_call 33
   refine (Fh.calls k A5 c5 L2 n2 L3 n3 w5 HC5.out.2.2 HC5.out.2.1 hK2).mono ?_;rintro e w6 ⟨v6,rfl,hS6,hb6⟩;have HZ6:=zh (zD HZ.out hb6);have HB6:=zh (zC HBZ.out hb6);have HS6:=zh (Kd.S_lower hS6 HBZ.out.size);obtain ⟨A6,c6,rfl⟩:=Kd.S_slice hS6;clear hS6 hb6 hK2 HC5 HZ HBZ;have q0:=zz HZ6.out 0;have q1:=zz HZ6.out 1;have f0:=zA HZ6.out 0;have f1:=zA HZ6.out 1
   go_wp2_with fail
   refine bodyPost_ret (results_ctt rfl _ _ g2 25 #[.slice A6 L3.length c6,.int .i64 n3] (0,0) _ rfl (blk_set (blk_set HZ6.out 0 (.slice A6 L3.length c6)) 1 (.int .i64 n3)) hu35 rfl jA) rfl ?_;exact ⟨_,rfl,Kd.S_set (Kd.S_set HS6.out HZ6.out jB 0 _) (blk_set HZ6.out 0 _) jB 1 _,zd (zd HB6.out hbase) hbase⟩


def Fp.f (k : Nat) (l0_0 : List (S60)) (a0_1 : Int) (a1_0 : ByteArray) (a1_1 : Int) : Option (Int×Int):=(F3.f k l0_0 a0_1).bind fun t424=>(if t424=true then ((F08.f a1_0 a1_1).bind fun t425=>(if t425=true then ((Fc.f k l0_0 a0_1 a1_0 a1_1).bind fun t426=>(if 0≤t426 then (if t426<(l0_0.length : Int) then (some ((rd_T60 l0_0 t426).f0,0)) else (none)) else (none))) else (some (0,1)))) else (some (0,1)))
theorem Fp.mono : ∀ a0 a1 a2 a3 k,LeO (Fp.f k a0 a1 a2 a3) (Fp.f (k+1) a0 a1 a2 a3):=by
 intro a0 a1 a2 a3 k;unfold Fp.f
 repeat' first|(with_reducible first|exact F3.mono _ _ _|exact Fc.mono _ _ _ _ _|exact zQ _|exact zN _|refine zP ?_ ?_|refine zO ?_ (fun _=>?_))|refine zP ?_ ?_|refine zO ?_ (fun _=>?_)
def Fp.T3 : Bool×List (List Nat×List Nat):=(true,[([],[]),([0],[0]),([],[]),([],[]),([2,3],[2,3]),([1,4],[1,4]),([5],[5]),([6],[6]),([7,4,0,1,2,3,4,5,6,7],[7]),([8,0,1,2,3,4,5,6,7,8],[])])
def Fp.B3 : List Nat:=[0,1,0,0,12,31,63,127,255,511]
theorem Fp.tab3 : rtab .any (opsOf Try.f13 3)=Fp.T3:=by kernel_rfl
theorem Fp.bits3 : waitsOk Fp.T3.2 Fp.B3=true:=by kernel_rfl
set_option maxHeartbeats 8000000 in
set_option maxRecDepth 100000 in
theorem Fp.calls (k : Nat) (A0_0 : Option Addr) (c0_0 : Nat) (l0_0 : List (S60)) (a0_1 : Int) (a1_0 : ByteArray) (a1_1 : Int) (r1 : Int) (r2 : Int) (w : World) (hr0_0 : Kd.C k60 w A0_0 l0_0.length l0_0) (hc0_0 : l0_0.length≤c0_0) (h : Fp.f k l0_0 a0_1 a1_0 a1_1=some (r1,r2)) :
  Calls Try.prog 13 #[.agg #[.slice A0_0 l0_0.length c0_0,.int .i64 a0_1],.agg #[.string a1_0,.int .i64 a1_1]] w fun e w' => e = .returned (.tuple #[.int .i64 r1,.int .i64 r2])∧Below w.heap.size w w':=by
 have hu25:=Try.underlying25;have hu28:=Try.underlying28;have HR0_0:=zh hr0_0;have HC0_0:=zh hc0_0;clear hr0_0 hc0_0;have HB:=zh (Below.refl w.heap.size w);have H : ((F3.f k l0_0 a0_1).bind fun t424=>(if t424=true then ((F08.f a1_0 a1_1).bind fun t425=>(if t425=true then ((Fc.f k l0_0 a0_1 a1_0 a1_1).bind fun t426=>(if 0≤t426 then (if t426<(l0_0.length : Int) then (some ((rd_T60 l0_0 t426).f0,0)) else (none)) else (none))) else (some (0,1)))) else (some (0,1))))=some (r1,r2):=h;clear h;replace H:=zT.mp H;obtain ⟨t424,A30,H⟩:=H;have A3:=zh A30;clear A30
 by_cases c4 : t424=true
 ·
  subst c4
  rw [if_pos rfl] at H;replace H:=zT.mp H;obtain ⟨t425,A50,H⟩:=H;have A5:=zh A50;clear A50
  by_cases c6 : t425=true
  ·
   subst c6
   rw [if_pos rfl] at H;replace H:=zT.mp H;obtain ⟨t426,A70,H⟩:=H;have A7:=zh A70;clear A70
   by_cases c8 : 0≤t426
   ·
    rw [if_pos c8] at H
    have c8b0 : decide (0≤t426)=true:=decide_eq_true c8;clear c8
    by_cases c9 : t426<(l0_0.length : Int)
    ·
     rw [if_pos c9] at H
     have c9b0 : decide (t426<(l0_0.length : Int))=true:=decide_eq_true c9;clear c9;simp only [Option.some.injEq,Prod.mk.injEq] at H;obtain ⟨rfl,rfl⟩:=H
     go_enter Try.func13,Try.ntmps13
     try go_wp2_with (first|((with_reducible refine zK (N:=2) rfl ?_);refine zI ?hg (N:=2) ?hd (cs:=#[.slice A0_0 l0_0.length c0_0,.int .i64 a0_1]) (t:=25) ?hr ?_;(case hd=>rfl);(case hg=>rfl);(case hr=>go_simp <;> rfl);intro gb422 hg w10 hbox hb;have BK422:=zh (hbox);have hH_:=cH jH hb hg;have GW422:=zh hH_.1;have GE422:=GW422;replace HB:=zh hH_.2;clear hb hbox hg hH_)|((with_reducible refine zK (N:=3) rfl ?_);refine zI ?hg (N:=3) ?hd (cs:=#[.string a1_0,.int .i64 a1_1]) (t:=28) ?hr ?_;(case hd=>rfl);(case hg=>rfl);(case hr=>go_simp <;> rfl);intro gb423 hg w11 hbox hb;have BK423:=zh (hbox);have hH_:=cH jCG hb hg;have GW423:=zh hH_.1;have GE423:=GW423;replace HB:=zh hH_.2;have NB422_423:=zh ((jCH : gb422≠gb423));have NB423_422:=zh NB422_423.out.symm;replace BK422:=zh (cD BK422.out jAN hb);clear hb hbox hg hH_;have hnb12:=NB422_423.out;have hnc12:=NB423_422.out;obtain ⟨hcz13_0,hcz13_1,hfz13_0,hfz13_1⟩:=cB2 BK422.out)|((with_reducible refine zJ (f:=20) rfl ?_);refine yj (some 7) rfl rfl Try.func20 jA rfl #[.agg #[.slice A0_0 l0_0.length c0_0,.int .i64 a0_1]] rfl jF ?_;(with_reducible refine (F3.calls k  _ _ l0_0 a0_1 true _ ?side1 ?side2 A3.out).mono ?_);(case side1=>repeat (first|exact (Kd.C_below HR0_0.out HB.out)|(with_reducible refine Kd.C_alloc ?_ _)|(with_reducible refine Kd.C_drewN ?_ _)|(with_reducible refine Kd.C_drew ?_)));(case side2=>exact HC0_0.out);rintro e w14 ⟨rfl,hb⟩;refine ⟨_,rfl,?_⟩;replace BK422:=zh (cD BK422.out jAN hb);replace BK423:=zh (cD BK423.out jA8 hb);replace HB:=zh (zC jAT hb);(try clear hb);(try clear hb2);(try clear hk);(try clear hi);obtain ⟨hcz15_0,hcz15_1,hfz15_0,hfz15_1⟩:=cB2 BK423.out)|(go_at_call 32;(with_reducible refine (F08.calls  a1_0 a1_1 true _ A5.out).mono ?_);rintro e w16 ⟨rfl,hb⟩;replace BK422:=zh (cD BK422.out jAN hb);replace BK423:=zh (cD BK423.out jA8 hb);replace HB:=zh (zC jAT hb);(try clear hb);(try clear hb2);(try clear hk);(try clear hi)))
     replace BK422:=zh (zf BK422.out);replace BK423:=zh (zf BK423.out);replace HB:=zh (zc HB.out);have p427 : 0≤(t426 : Int):=zy jC;have q427 : t426<(l0_0.length : Int):=zy jC;obtain ⟨ad427,A427_1,c427_1,e427,hx427_0,hx427_1,hl427_1,hi427_1⟩:=at_T60 HR0_0.out t426 p427 q427;have hw427_1:=hx427_1;have hw427_0:=hx427_0
     cases e427
     replace hx427_0:=(HB.out.cell (zl w _ hx427_0)).trans hx427_0;replace hx427_1:=(HB.out.cell (zl w _ hx427_1)).trans hx427_1;have HR427_1:=zh hi427_1;have HC427_1:=zh hl427_1;clear hi427_1 hl427_1;replace p427:=eq_true p427;replace q427:=eq_true q427;refine start_ (n:=10) (S:=fun w' => w'.cell? ⟨gb422,0,none⟩=some (.slice (some ad427) l0_0.length c0_0)∧w'.cell? ⟨gb422,1,none⟩=some (.int .i64 a0_1)∧w'.cell? ⟨gb423,0,none⟩=some (.string a1_0)∧w'.cell? ⟨gb423,1,none⟩=some (.int .i64 a1_1)∧w'.cell? (ad427.add ((t426).toNat*2))=some (.int .i64 ((rd_T60 l0_0 t426).f0))∧w'.cell? ⟨(ad427.add ((t426).toNat*2)).block,(ad427.add ((t426).toNat*2)).off+1,none⟩=some (.slice A427_1 ((rd_T60 l0_0 t426).f1).length c427_1)) (ds:=[]) (bm_ 0 10) jA rfl rfl ⟨(zz BK422.out 0).trans rfl,(zz BK422.out 1).trans rfl,(zz BK423.out 0).trans rfl,(zz BK423.out 1).trans rfl,((HB.out.cell (zl w _ hw427_0)).trans hw427_0),((HB.out.cell (zl w _ hw427_1)).trans hw427_1)⟩ (fun hHeld=>?_);refine with_tabW Fp.tab3 Fp.bits3 (fun HT_ HW_=>?_);generalize w16.drew=w17 at BK422 BK423 HB HR427_1 hx427_0 hx427_1 hHeld ⊢;refine pure_ (i:=0) (N:=some 14) (v:=?_) (a':=?_) (bm_ 1 10) rfl rfl (any_of HT_.out jA) (fun _ _ _ h=>h) (Or.inl ⟨by rfl,?_⟩) ?_ ?_;rotate_left;exact jb;rotate_left;exact jc
     refine take_ (i:=1) (N:=some 15) (v:=?_) (a':=?_) (bm_ 2 10) rfl rfl (yo HT_.out HW_.out jA) (fun _ _ _ h=>h) (Or.inl ⟨by rfl,?_⟩) hHeld ?_ ?_;rotate_left
     ·
      rintro w' ⟨s0,s1,s2,s3,s4,s5⟩
      go_simp
      with_reducible rfl
     rotate_left
     exact jc
     refine take_ (i:=2) (N:=some 16) (v:=?_) (a':=?_) (bm_ 3 10) rfl rfl (yo HT_.out HW_.out jA) (fun _ _ _ h=>h) (Or.inl ⟨by rfl,?_⟩) hHeld ?_ ?_;rotate_left
     ·
      rintro w' ⟨s0,s1,s2,s3,s4,s5⟩
      go_simp
      with_reducible rfl
     rotate_left
     exact jc
     refine take_ (i:=3) (N:=some 17) (v:=?_) (a':=?_) (bm_ 4 10) rfl rfl (yo HT_.out HW_.out jA) (fun _ _ _ h=>h) (Or.inl ⟨by rfl,?_⟩) hHeld ?_ ?_;rotate_left
     ·
      rintro w' ⟨s0,s1,s2,s3,s4,s5⟩
      go_simp
      with_reducible rfl
     rotate_left
     exact jc
     refine one_ (i:=4) (N:=some 18) (bm_ 5 10) rfl rfl (one_of HT_.out jA) jB (fun K hK=>?_);refine goes_ Try.func28 jA rfl #[.agg #[.slice (some ad427) l0_0.length c0_0,.int .i64 a0_1],.agg #[.string a1_0,.int .i64 a1_1]] (by rfl) rfl rfl jF ?_
     with_reducible refine (Fc.calls k  _ _ l0_0 a0_1 a1_0 a1_1 t426 _ ?side1 ?side2 A7.out).mono ?_
     (case side1=>repeat (first|exact (Kd.C_below HR0_0.out HB.out)|(with_reducible refine Kd.C_alloc ?_ _)|(with_reducible refine Kd.C_drewN ?_ _)|(with_reducible refine Kd.C_drew ?_)))
     (case side2=>exact HC0_0.out)
     rintro e w18 ⟨rfl,hb⟩;refine ⟨_,rfl,?_⟩;replace BK422:=zh (cD BK422.out jAN hb);replace BK423:=zh (cD BK423.out jA8 hb);replace HB:=zh (zC jAT hb);(try clear hb);(try clear hb2);(try clear hk);(try clear hi);refine hK.out _ _ ⟨(zz BK422.out 0).trans rfl,(zz BK422.out 1).trans rfl,(zz BK423.out 0).trans rfl,(zz BK423.out 1).trans rfl,((HB.out.cell (zl w _ hw427_0)).trans hw427_0),((HB.out.cell (zl w _ hw427_1)).trans hw427_1)⟩ (fun hHeld=>?_);clear hK K;refine norm_ (a':=?_) ?_ ?_;rotate_left
     ·
      show Act.put _ (some 18) _=_
      simp only [Act.put,zi,zj,zk,zG,zH]
      rfl
     refine pure_ (i:=5) (N:=some 19) (v:=?_) (a':=?_) (bm_ 6 10) rfl rfl (any_of HT_.out jA) (fun _ _ _ h=>h) (Or.inl ⟨by rfl,?_⟩) ?_ ?_;rotate_left;exact jb;rotate_left;exact jc
     refine pure_ (i:=6) (N:=some 20) (v:=?_) (a':=?_) (bm_ 7 10) rfl rfl (any_of HT_.out jA) (fun _ _ _ h=>h) (Or.inl ⟨by rfl,?_⟩) ?_ ?_;rotate_left;exact jb;rotate_left;exact jc
     refine take_ (i:=7) (N:=some 21) (v:=?_) (a':=?_) (bm_ 8 10) rfl rfl (yo HT_.out HW_.out jA) (fun _ _ _ h=>h) (Or.inl ⟨by rfl,?_⟩) hHeld ?_ ?_;rotate_left
     ·
      rintro w' ⟨s0,s1,s2,s3,s4,s5⟩
      go_simp
      with_reducible rfl
     rotate_left
     exact jc
     refine pure_ (i:=8) (N:=some 4) (v:=?_) (a':=?_) (bm_ 9 10) rfl rfl (any_of HT_.out jA) (fun _ _ _ h=>h) (Or.inl ⟨by rfl,?_⟩) ?_ ?_;rotate_left;exact jb;rotate_left;exact jc
     refine pure_ (i:=9) (N:=some 5) (v:=?_) (a':=?_) (bm_ 10 10) rfl rfl (any_of HT_.out jA) (fun _ _ _ h=>h) (Or.inl ⟨by rfl,?_⟩) ?_ ?_;rotate_left;exact jb;rotate_left;exact jc
     refine done_ (done_of HT_.out jA) ?_
     try go_wp2
     go_ret2
     exact ⟨jG,jAT⟩
    rw [if_neg c9] at H;exact absurd H (by simp)
   rw [if_neg c8] at H;exact absurd H (by simp)
  replace c6:=yb.mpr c6;subst c6;rw [if_neg (show ¬ (false=true) by decide)] at H;simp only [Option.some.injEq,Prod.mk.injEq] at H;obtain ⟨rfl,rfl⟩:=H
  go_enter Try.func13,Try.ntmps13
  go_wp2_with (first|((with_reducible refine zK (N:=2) rfl ?_);refine zI ?hg (N:=2) ?hd (cs:=#[.slice A0_0 l0_0.length c0_0,.int .i64 a0_1]) (t:=25) ?hr ?_;(case hd=>rfl);(case hg=>rfl);(case hr=>go_simp <;> rfl);intro gb422 hg w19 hbox hb;have BK422:=zh (hbox);have hH_:=cH jH hb hg;have GW422:=zh hH_.1;have GE422:=GW422;replace HB:=zh hH_.2;clear hb hbox hg hH_)|((with_reducible refine zK (N:=3) rfl ?_);refine zI ?hg (N:=3) ?hd (cs:=#[.string a1_0,.int .i64 a1_1]) (t:=28) ?hr ?_;(case hd=>rfl);(case hg=>rfl);(case hr=>go_simp <;> rfl);intro gb423 hg w20 hbox hb;have BK423:=zh (hbox);have hH_:=cH jCG hb hg;have GW423:=zh hH_.1;have GE423:=GW423;replace HB:=zh hH_.2;have NB422_423:=zh ((jCH : gb422≠gb423));have NB423_422:=zh NB422_423.out.symm;replace BK422:=zh (cD BK422.out jAN hb);clear hb hbox hg hH_;have hnb21:=NB422_423.out;have hnc21:=NB423_422.out;obtain ⟨hcz22_0,hcz22_1,hfz22_0,hfz22_1⟩:=cB2 BK422.out)|((with_reducible refine zJ (f:=20) rfl ?_);refine yj (some 7) rfl rfl Try.func20 jA rfl #[.agg #[.slice A0_0 l0_0.length c0_0,.int .i64 a0_1]] rfl jF ?_;(with_reducible refine (F3.calls k  _ _ l0_0 a0_1 true _ ?side1 ?side2 A3.out).mono ?_);(case side1=>repeat (first|exact (Kd.C_below HR0_0.out HB.out)|(with_reducible refine Kd.C_alloc ?_ _)|(with_reducible refine Kd.C_drewN ?_ _)|(with_reducible refine Kd.C_drew ?_)));(case side2=>exact HC0_0.out);rintro e w23 ⟨rfl,hb⟩;refine ⟨_,rfl,?_⟩;replace BK422:=zh (cD BK422.out jAN hb);replace BK423:=zh (cD BK423.out jA8 hb);replace HB:=zh (zC jAT hb);(try clear hb);(try clear hb2);(try clear hk);(try clear hi);obtain ⟨hcz24_0,hcz24_1,hfz24_0,hfz24_1⟩:=cB2 BK423.out)|(go_at_call 32;(with_reducible refine (F08.calls  a1_0 a1_1 false _ A5.out).mono ?_);rintro e w25 ⟨rfl,hb⟩;replace BK422:=zh (cD BK422.out jAN hb);replace BK423:=zh (cD BK423.out jA8 hb);replace HB:=zh (zC jAT hb);(try clear hb);(try clear hb2);(try clear hk);(try clear hi)))
  go_ret2
  exact ⟨jG,jAT⟩
 replace c4:=yb.mpr c4;subst c4;rw [if_neg (show ¬ (false=true) by decide)] at H;simp only [Option.some.injEq,Prod.mk.injEq] at H;obtain ⟨rfl,rfl⟩:=H
 go_enter Try.func13,Try.ntmps13
 go_wp2_with (first|((with_reducible refine zK (N:=2) rfl ?_);refine zI ?hg (N:=2) ?hd (cs:=#[.slice A0_0 l0_0.length c0_0,.int .i64 a0_1]) (t:=25) ?hr ?_;(case hd=>rfl);(case hg=>rfl);(case hr=>go_simp <;> rfl);intro gb422 hg w26 hbox hb;have BK422:=zh (hbox);have hH_:=cH jH hb hg;have GW422:=zh hH_.1;have GE422:=GW422;replace HB:=zh hH_.2;clear hb hbox hg hH_)|((with_reducible refine zK (N:=3) rfl ?_);refine zI ?hg (N:=3) ?hd (cs:=#[.string a1_0,.int .i64 a1_1]) (t:=28) ?hr ?_;(case hd=>rfl);(case hg=>rfl);(case hr=>go_simp <;> rfl);intro gb423 hg w27 hbox hb;have BK423:=zh (hbox);have hH_:=cH jCG hb hg;have GW423:=zh hH_.1;have GE423:=GW423;replace HB:=zh hH_.2;have NB422_423:=zh ((jCH : gb422≠gb423));have NB423_422:=zh NB422_423.out.symm;replace BK422:=zh (cD BK422.out jAN hb);clear hb hbox hg hH_;have hnb28:=NB422_423.out;have hnc28:=NB423_422.out;obtain ⟨hcz29_0,hcz29_1,hfz29_0,hfz29_1⟩:=cB2 BK422.out)|((with_reducible refine zJ (f:=20) rfl ?_);refine yj (some 7) rfl rfl Try.func20 jA rfl #[.agg #[.slice A0_0 l0_0.length c0_0,.int .i64 a0_1]] rfl jF ?_;(with_reducible refine (F3.calls k  _ _ l0_0 a0_1 false _ ?side1 ?side2 A3.out).mono ?_);(case side1=>repeat (first|exact (Kd.C_below HR0_0.out HB.out)|(with_reducible refine Kd.C_alloc ?_ _)|(with_reducible refine Kd.C_drewN ?_ _)|(with_reducible refine Kd.C_drew ?_)));(case side2=>exact HC0_0.out);rintro e w30 ⟨rfl,hb⟩;refine ⟨_,rfl,?_⟩;replace BK422:=zh (cD BK422.out jAN hb);replace BK423:=zh (cD BK423.out jA8 hb);replace HB:=zh (zC jAT hb);(try clear hb);(try clear hb2);(try clear hk);(try clear hi)))
 go_ret2
 exact ⟨jG,jAT⟩


def Fd.l0 : Nat→List (S60)→Int→List (S60)→Int→Option ((List (S60))×Int)
 | 0,_,_,_,_=>none
 | k+1,x3,x4,x131000,x131001=>if x4<(x131000.length : Int) then (if 0≤x4 then ((some (([] : List (S28)) : List (S28))).bind fun y136=>(if y136.length+((rd_T60 x131000 x4).f1).length<5864062014805 then (if x3.length<4398046511104 then (Fd.l0 k (x3 ++ [(⟨(rd_T60 x131000 x4).f0,(y136++((rd_T60 x131000 x4).f1))⟩ : S60)]) (wrap64 (x4+1)) x131000 x131001) else (none)) else (none))) else (none)) else (some (x3,x131001))
def Fd.f (k : Nat) (l0_0 : List (S60)) (a0_1 : Int) : Option ((List (S60))×Int):=Fd.l0 k (([] : List (S60))) 0 l0_0 a0_1
theorem Fd.mono_l : ∀ k,(∀ y0 y1 y2 y3,LeO (Fd.l0 k y0 y1 y2 y3) (Fd.l0 (k+1) y0 y1 y2 y3))
 | 0=>fun _ _ _ _ r h=>by simp [Fd.l0] at h
 | k+1=>by
  have ih0:=Fd.mono_l k;intro y0 y1 y2 y3;unfold Fd.l0
  repeat' first|(with_reducible first|exact ih0 _ _ _ _|exact zQ _|exact zN _|refine zP ?_ ?_|refine zO ?_ (fun _=>?_))|refine zP ?_ ?_|refine zO ?_ (fun _=>?_)
theorem Fd.mono : ∀ a0 a1 k,LeO (Fd.f k a0 a1) (Fd.f (k+1) a0 a1):=by
 intro a0 a1 k;have ih0:=Fd.mono_l k;unfold Fd.f
 repeat' first|(with_reducible first|exact ih0 _ _ _ _|exact zQ _|exact zN _|refine zP ?_ ?_|refine zO ?_ (fun _=>?_))|refine zP ?_ ?_|refine zO ?_ (fun _=>?_)
def Fd.T5 : Bool×List (List Nat×List Nat):=(true,[([],[]),([],[]),([1],[1]),([],[]),([2,3],[2,3]),([4],[4]),([5],[5]),([],[]),([],[]),([8],[8]),([],[]),([9,10],[9,10]),([11],[11]),([12],[12]),([7,13],[7,13]),([6,14],[6,14]),([15],[15]),([0,16,14],[0,16]),([17,17,0,1,2,3,4,5,6,7,8,9,10,11,12,13,14,15,16,17],[0,17])])
def Fd.B5 : List Nat:=[0,0,2,0,14,30,62,0,0,256,0,1792,3840,7936,16256,32766,65534,131071,262143]
theorem Fd.tab5 : rtab .any (opsOf Try.f37 5)=Fd.T5:=by kernel_rfl
theorem Fd.bits5 : waitsOk Fd.T5.2 Fd.B5=true:=by kernel_rfl
set_option maxHeartbeats 8000000 in
set_option maxRecDepth 100000 in
theorem Fd.calls (k : Nat) (A0_0 : Option Addr) (c0_0 : Nat) (l0_0 : List (S60)) (a0_1 : Int) (r1 : List (S60)) (r2 : Int) (w : World) (hr0_0 : Kd.C k60 w A0_0 l0_0.length l0_0) (hc0_0 : l0_0.length≤c0_0) (h : Fd.f k l0_0 a0_1=some (r1,r2)) :
  Calls Try.prog 37 #[.agg #[.slice A0_0 l0_0.length c0_0,.int .i64 a0_1]] w fun e w' => ∃ v0_ : Value,e = .returned (.agg #[v0_,.int .i64 r2])∧Kd.S k60 60 w' w.heap.size (fun _=>True) v0_ r1∧Below w.heap.size w w':=by
 have hu25:=Try.underlying25;have hu60:=Try.underlying60;have HR0_0:=zh hr0_0;have HC0_0:=zh hc0_0;clear hr0_0 hc0_0;have HB:=zh (Below.refl w.heap.size w);have H : (Fd.l0 k (([] : List (S60))) 0 l0_0 a0_1)=some (r1,r2):=h;clear h;obtain ⟨y132,hy132⟩ : ∃ y_ : List (S60),y_=(([] : List (S60))):=⟨_,rfl⟩;replace H : (Fd.l0 k y132 0 l0_0 a0_1)=some (r1,r2):=by first|(rw [hy132];with_reducible exact H)|(have H2_:=(Option.bind_some _ _).symm.trans H;rw [hy132];with_reducible exact H2_)|(have H2_:=(Option.bind_some _ _).symm.trans H;with_reducible exact H2_)|with_reducible exact H|(rw [hy132];exact H)|exact H
 have Ny132:=zh hy132;clear hy132;have H':=zh H;clear H
 go_enter Try.func37,Try.ntmps37
 go_wp2_with (first|((with_reducible refine zK (N:=1) rfl ?_);refine zI ?hg (N:=1) ?hd (cs:=#[.slice A0_0 l0_0.length c0_0,.int .i64 a0_1]) (t:=25) ?hr ?_;(case hd=>rfl);(case hg=>rfl);(case hr=>go_simp <;> rfl);intro gb130 hg w2 hbox hb;have BK130:=zh (hbox);have hH_:=cH jH hb hg;have GW130:=zh hH_.1;have GE130:=GW130;replace HB:=zh hH_.2;clear hb hbox hg hH_)|((with_reducible refine zK (N:=2) rfl ?_);refine zI ?hg (N:=2) ?hd (cs:=#[.slice none 0 0,.int .i64 0]) (t:=25) ?hr ?_;(case hd=>rfl);(case hg=>rfl);(case hr=>go_simp <;> rfl);intro gb131 hg w3 hbox hb;have BK131:=zh (hbox);have hH_:=cH (by repeat (with_reducible first|exact HB.out|apply za|apply zb|apply zc|refine zd ?_ GE130.out)) hb hg;have GW131:=zh hH_.1;have GE131:=GW131;replace HB:=zh hH_.2;have NB130_131:=zh ((by rw [hg];exact yc (yi (g:=gb130) (o:=.cells #[.slice A0_0 l0_0.length c0_0,.int .i64 a0_1] 25 (0,0)) jAf) : gb130≠gb131));have NB131_130:=zh NB130_131.out.symm;replace BK130:=zh (cD BK130.out jAf hb);clear hb hbox hg hH_)|((with_reducible refine zK (N:=5) rfl ?_);refine Kd.S_lit k60 _ 60 ?hg (N:=5) ?hd (xs:=([] : List (S60))) (inner:=[]) (ok:=fun _=>True) (okp:=fun _=>True) ?hr ?hp (fun _ hk=>hk) trivial (Below.refl _ _) (ye _) (by simp) ?_;(case hd=>rfl);(case hg=>rfl);(case hr=>go_simp <;> rfl);(case hp=>exact (Reps.none _ _));intro v133 w4 ho5 hb hg_ hnew_;clear hg_ hnew_;(first|rw [← Ny132.out] at ho5|(simp only [Int.reduceToNat] at ho5;rw [← Ny132.out] at ho5));have HO134:=zh (Kd.S_lower ho5 (zB jAD));replace BK130:=zh (cD BK130.out jAf hb);replace BK131:=zh (cD BK131.out jA9 hb);replace HB:=zh (zC jAD hb);clear hb ho5))
 go_loopg [3,4] k (fun kq v3 v4 w' => ∃ (x3_1 : List (S60)) (x4_1 : Int),v4 = .int .i64 x4_1∧Aside0 (Fd.l0 kq x3_1 x4_1 l0_0 a0_1=some (r1,r2))∧Aside0 (kq≤k)∧Aside0 (Kd.S k60 60 w' w.heap.size (fun _=>True) v3 x3_1)∧Aside0 (w'.heap[gb130]? = some (.cells #[(.slice A0_0 l0_0.length c0_0),.int .i64 a0_1] 25 (0,0)))∧Aside0 (w'.heap[gb131]? = some (.cells #[(.slice none 0 0),.int .i64 0] 25 (0,0)))∧Aside0 (Below w.heap.size w w'))
 case atStart=>exact ⟨(y132),(0),jE,H',⟨ye _⟩,⟨by (with_reducible repeat (first|apply Kd.S_alloc|apply Kd.S_drewN|apply Kd.S_drew));exact HO134.out⟩,⟨jAf⟩,⟨jA9⟩,⟨jAD⟩⟩
 case round =>
  clear H'
  try clear p2
  try clear c3
  obtain ⟨x3_1,x4_1,rfl,HA,HK1,HO_3,BK130,BK131,HB⟩:=hrel
  cases gk with
  | zero=>exact absurd HA.out (by simp [Fd.l0])
  | succ k1 =>
   have H:=HA.out;clear HA;simp only [Fd.l0] at H
   by_cases c6 : x4_1<(l0_0.length : Int)
   ·
    rw [if_pos c6] at H
    have c6b0 : decide (x4_1<(l0_0.length : Int))=true:=decide_eq_true c6;clear c6
    by_cases c7 : 0≤x4_1
    ·
     rw [if_pos c7] at H
     have c7b0 : decide (0≤x4_1)=true:=decide_eq_true c7;clear c7;obtain ⟨y136,hy136⟩ : ∃ y_ : List (S28),y_=(([] : List (S28))):=⟨_,rfl⟩;replace H : (if y136.length+((rd_T60 l0_0 x4_1).f1).length<5864062014805 then (if x3_1.length<4398046511104 then (Fd.l0 k1 (x3_1 ++ [(⟨(rd_T60 l0_0 x4_1).f0,(y136++((rd_T60 l0_0 x4_1).f1))⟩ : S60)]) (wrap64 (x4_1+1)) l0_0 a0_1) else (none)) else (none))=some (r1,r2):=by first|(rw [hy136];with_reducible exact H)|(have H2_:=(Option.bind_some _ _).symm.trans H;rw [hy136];with_reducible exact H2_)|(have H2_:=(Option.bind_some _ _).symm.trans H;with_reducible exact H2_)|with_reducible exact H|(rw [hy136];exact H)|exact H
     have Ny136:=zh hy136;clear hy136
     by_cases c8 : y136.length+((rd_T60 l0_0 x4_1).f1).length<5864062014805
     ·
      rw [if_pos c8] at H
      have LMc8:=zh c8;clear c8;obtain ⟨y140,hy140⟩ : ∃ y_ : List (S28),y_=(y136++((rd_T60 l0_0 x4_1).f1)):=⟨_,rfl⟩;replace H : (if x3_1.length<4398046511104 then (Fd.l0 k1 (x3_1 ++ [(⟨(rd_T60 l0_0 x4_1).f0,y140⟩ : S60)]) (wrap64 (x4_1+1)) l0_0 a0_1) else (none))=some (r1,r2):=by first|(rw [hy140];with_reducible exact H)|(have H2_:=(Option.bind_some _ _).symm.trans H;rw [hy140];with_reducible exact H2_)|(have H2_:=(Option.bind_some _ _).symm.trans H;with_reducible exact H2_)|with_reducible exact H|(rw [hy140];exact H)|exact H
      have Ny140:=zh hy140;clear hy140
      by_cases c9 : x3_1.length<4398046511104
      ·
       rw [if_pos c9] at H
       have LMc9:=zh c9;clear c9;obtain ⟨y143,hy143⟩ : ∃ y_ : List (S60),y_=(x3_1 ++ [(⟨(rd_T60 l0_0 x4_1).f0,y140⟩ : S60)]):=⟨_,rfl⟩;replace H : (Fd.l0 k1 y143 (wrap64 (x4_1+1)) l0_0 a0_1)=some (r1,r2):=by first|(rw [hy143];with_reducible exact H)|(have H2_:=(Option.bind_some _ _).symm.trans H;rw [hy143];with_reducible exact H2_)|(have H2_:=(Option.bind_some _ _).symm.trans H;with_reducible exact H2_)|with_reducible exact H|(rw [hy143];exact H)|exact H
       have Ny143:=zh hy143;clear hy143;have H':=zh H;clear H;have hnb10:=NB130_131.out;have hnc10:=NB131_130.out;obtain ⟨hcz11_0,hcz11_1,hfz11_0,hfz11_1⟩:=cB2 BK130.out
       try go_wp2
       replace HO_3:=zh (Kd.S_drew HO_3.out);replace BK130:=zh (zf BK130.out);replace BK131:=zh (zf BK131.out);replace HB:=zh (zc HB.out);have p135 : 0≤(x4_1 : Int):=zy jC;have q135 : x4_1<(l0_0.length : Int):=zy jC;obtain ⟨ad135,A135_1,c135_1,e135,hx135_0,hx135_1,hl135_1,hi135_1⟩:=at_T60 HR0_0.out x4_1 p135 q135;have hw135_1:=hx135_1;have hw135_0:=hx135_0
       cases e135
       replace hx135_0:=(HB.out.cell (zl w _ hx135_0)).trans hx135_0;replace hx135_1:=(HB.out.cell (zl w _ hx135_1)).trans hx135_1;have HR135_1:=zh hi135_1;have HC135_1:=zh hl135_1;clear hi135_1 hl135_1;replace p135:=eq_true p135;replace q135:=eq_true q135;have p139 : 0≤(x4_1 : Int):=zy jC;have q139 : x4_1<(l0_0.length : Int):=zy jC;obtain ⟨ad139,A139_1,c139_1,e139,hx139_0,hx139_1,hl139_1,hi139_1⟩:=at_T60 HR0_0.out x4_1 p139 q139;have hw139_1:=hx139_1;have hw139_0:=hx139_0;obtain rfl : ad135=ad139:=(by injection e139);replace hx139_0:=(HB.out.cell (zl w _ hx139_0)).trans hx139_0;replace hx139_1:=(HB.out.cell (zl w _ hx139_1)).trans hx139_1;have HR139_1:=zh hi139_1;have HC139_1:=zh hl139_1;clear hi139_1 hl139_1;replace p139:=eq_true p139;replace q139:=eq_true q139;have ea_:=zU (hx135_1.symm.trans hx139_1);injection ea_ with ea_ en_ ec_;subst ea_;subst ec_;clear en_;refine start_ (n:=19) (S:=fun w' => w'.cell? ⟨gb130,0,none⟩=some (.slice (some ad135) l0_0.length c0_0)∧w'.cell? ⟨gb130,1,none⟩=some (.int .i64 a0_1)∧w'.cell? (ad135.add ((x4_1).toNat*2))=some (.int .i64 ((rd_T60 l0_0 x4_1).f0))∧w'.cell? ⟨(ad135.add ((x4_1).toNat*2)).block,(ad135.add ((x4_1).toNat*2)).off+1,none⟩=some (.slice A135_1 ((rd_T60 l0_0 x4_1).f1).length c135_1)∧w'.cell? (ad135.add ((x4_1).toNat*2))=some (.int .i64 ((rd_T60 l0_0 x4_1).f0))∧w'.cell? ⟨(ad135.add ((x4_1).toNat*2)).block,(ad135.add ((x4_1).toNat*2)).off+1,none⟩=some (.slice A135_1 ((rd_T60 l0_0 x4_1).f1).length c135_1)) (ds:=[]) (bm_ 0 19) jA rfl rfl ⟨(zz BK130.out 0).trans rfl,(zz BK130.out 1).trans rfl,((HB.out.cell (zl w _ hw135_0)).trans hw135_0),((HB.out.cell (zl w _ hw135_1)).trans hw135_1),((HB.out.cell (zl w _ hw139_0)).trans hw139_0),((HB.out.cell (zl w _ hw139_1)).trans hw139_1)⟩ (fun hHeld=>?_);refine with_tabW Fd.tab5 Fd.bits5 (fun HT_ HW_=>?_);generalize wr.drew=w12 at HO_3 BK130 BK131 HB HR135_1 HR139_1 hx135_0 hx135_1 hx139_0 hx139_1 hHeld ⊢;refine pure_ (i:=0) (N:=some 13) (v:=?_) (a':=?_) (bm_ 1 19) rfl rfl (any_of HT_.out jA) (fun _ _ _ h=>h) (Or.inl ⟨by rfl,?_⟩) ?_ ?_;rotate_left;exact jb;rotate_left;exact jc
       refine pure_ (i:=1) (N:=some 14) (v:=?_) (a':=?_) (bm_ 2 19) rfl rfl (any_of HT_.out jA) (fun _ _ _ h=>h) (Or.inl ⟨by rfl,?_⟩) ?_ ?_;rotate_left;exact jb;rotate_left;exact jc
       refine pure_ (i:=3) (N:=some 16) (v:=?_) (a':=?_) #[true,true,false,true,false,false,false,false,false,false,false,false,false,false,false,false,false,false,false] rfl rfl (any_of HT_.out jA) (fun _ _ _ h=>h) (Or.inl ⟨by rfl,?_⟩) ?_ ?_;rotate_left;exact jb;rotate_left;exact jc
       refine pure_ (i:=8) (N:=some 21) (v:=?_) (a':=?_) #[true,true,false,true,false,false,false,false,true,false,false,false,false,false,false,false,false,false,false] rfl rfl (any_of HT_.out jA) (fun _ _ _ h=>h) (Or.inl ⟨by rfl,?_⟩) ?_ ?_;rotate_left;exact jb;rotate_left;exact jc
       refine pure_ (i:=10) (N:=some 23) (v:=?_) (a':=?_) #[true,true,false,true,false,false,false,false,true,false,true,false,false,false,false,false,false,false,false] rfl rfl (any_of HT_.out jA) (fun _ _ _ h=>h) (Or.inl ⟨by rfl,?_⟩) ?_ ?_;rotate_left;exact jb;rotate_left;exact jc
       refine take_ (i:=2) (N:=some 15) (v:=?_) (a':=?_) #[true,true,true,true,false,false,false,false,true,false,true,false,false,false,false,false,false,false,false] rfl rfl (yo HT_.out HW_.out jA) (fun _ _ _ h=>h) (Or.inl ⟨by rfl,?_⟩) hHeld ?_ ?_;rotate_left
       ·
        rintro w' ⟨s0,s1,s2,s3,s4,s5⟩
        go_simp
        with_reducible rfl
       rotate_left
       exact jc
       refine pure_ (i:=4) (N:=some 17) (v:=?_) (a':=?_) #[true,true,true,true,true,false,false,false,true,false,true,false,false,false,false,false,false,false,false] rfl rfl (any_of HT_.out jA) (fun _ _ _ h=>h) (Or.inl ⟨by rfl,?_⟩) ?_ ?_;rotate_left;exact jb;rotate_left;exact jc
       refine pure_ (i:=5) (N:=some 18) (v:=?_) (a':=?_) #[true,true,true,true,true,true,false,false,true,false,true,false,false,false,false,false,false,false,false] rfl rfl (any_of HT_.out jA) (fun _ _ _ h=>h) (Or.inl ⟨by rfl,?_⟩) ?_ ?_;rotate_left;exact jb;rotate_left;exact jc
       refine take_ (i:=6) (N:=some 19) (v:=?_) (a':=?_) #[true,true,true,true,true,true,true,false,true,false,true,false,false,false,false,false,false,false,false] rfl rfl (yo HT_.out HW_.out jA) (fun _ _ _ h=>h) (Or.inl ⟨by rfl,?_⟩) hHeld ?_ ?_;rotate_left
       ·
        rintro w' ⟨s0,s1,s2,s3,s4,s5⟩
        go_simp
        with_reducible rfl
       rotate_left
       exact jc
       refine take_ (i:=9) (N:=some 22) (v:=?_) (a':=?_) #[true,true,true,true,true,true,true,false,true,true,true,false,false,false,false,false,false,false,false] rfl rfl (yo HT_.out HW_.out jA) (fun _ _ _ h=>h) (Or.inl ⟨by rfl,?_⟩) hHeld ?_ ?_;rotate_left
       ·
        rintro w' ⟨s0,s1,s2,s3,s4,s5⟩
        go_simp
        with_reducible rfl
       rotate_left
       exact jc
       refine pure_ (i:=11) (N:=some 24) (v:=?_) (a':=?_) #[true,true,true,true,true,true,true,false,true,true,true,true,false,false,false,false,false,false,false] rfl rfl (any_of HT_.out jA) (fun _ _ _ h=>h) (Or.inl ⟨by rfl,?_⟩) ?_ ?_;rotate_left;exact jb;rotate_left;exact jc
       refine pure_ (i:=12) (N:=some 25) (v:=?_) (a':=?_) #[true,true,true,true,true,true,true,false,true,true,true,true,true,false,false,false,false,false,false] rfl rfl (any_of HT_.out jA) (fun _ _ _ h=>h) (Or.inl ⟨by rfl,?_⟩) ?_ ?_;rotate_left;exact jb;rotate_left;exact jc
       refine take_ (i:=13) (N:=some 26) (v:=?_) (a':=?_) #[true,true,true,true,true,true,true,false,true,true,true,true,true,true,false,false,false,false,false] rfl rfl (yo HT_.out HW_.out jA) (fun _ _ _ h=>h) (Or.inl ⟨by rfl,?_⟩) hHeld ?_ ?_;rotate_left
       ·
        rintro w' ⟨s0,s1,s2,s3,s4,s5⟩
        go_simp
        with_reducible rfl
       rotate_left
       exact jc
       refine one_ (i:=7) (N:=some 20) (bm_ 14 19) rfl rfl (one_of HT_.out jA) jB (fun K hK=>?_);refine Kd.R_lit_step k28 _ 28 ?hg (N:=20) ?hd (xs:=([] : List (S28))) (inner:=[]) (ok:=fun _=>True) (okp:=fun _=>True) ?hr ?hp (fun _ hk=>hk) trivial (Below.refl _ _) (ye _) (by simp) ?_;(case hd=>rfl);(case hg=>rfl);(case hr=>go_simp <;> rfl);(case hp=>exact (Reps.none _ _));intro v137 w13 ho14 hb hg_ hnew_;clear hg_ hnew_;(first|rw [← Ny136.out] at ho14|(simp only [Int.reduceToNat] at ho14;rw [← Ny136.out] at ho14));replace HO_3:=zh (Kd.S_elder' jDF (Kd.R_base ho14) hb);have HO138:=zh (yx ho14 (zB jAD));replace BK130:=zh (cD BK130.out jAf hb);replace BK131:=zh (cD BK131.out jA9 hb);replace HB:=zh (zC jAD hb);clear hb ho14;refine hK.out _ _ ⟨(zz BK130.out 0).trans rfl,(zz BK130.out 1).trans rfl,((HB.out.cell (zl w _ hw135_0)).trans hw135_0),((HB.out.cell (zl w _ hw135_1)).trans hw135_1),((HB.out.cell (zl w _ hw139_0)).trans hw139_0),((HB.out.cell (zl w _ hw139_1)).trans hw139_1)⟩ (fun hHeld=>?_);clear hK K;refine norm_ (a':=?_) ?_ ?_;rotate_left
       ·
        show Act.put _ (some 20) _=_
        simp only [Act.put,zi,zj,zk,zG,zH]
        rfl
       refine one_ (i:=14) (N:=some 27) (bm_ 15 19) rfl rfl (one_of HT_.out jA) jB (fun K hK=>?_);refine Kd.R_append_rows_step k28 (w0:=w) w.heap.size (by rfl) (.tmp 20) (.tmp 26) 33 28 (.agg #[(.string ⟨#[]⟩),(.int .i64 0)]) 24 rfl Try.underlying33 info28 rfl jB jD v137 y136 ((rd_T60 l0_0 x4_1).f1) _ _ _ (fun _=>True) (fun _=>False) rfl rfl ?aO ?aR (fun _ _ h=>h) (fun _ h=>h.elim) ?aF ?aB ?aS ?aL ?_;(case aR=>repeat (first|exact (Kd.C_below HR139_1.out HB.out)|(with_reducible refine Kd.C_alloc ?_ _)|(with_reducible refine Kd.C_drewN ?_ _)|(with_reducible refine Kd.C_drew ?_)))
       (case aB=>exact jAD)
       (case aF=>exact (fun _ _=>trivial))
       (case aO=>exact (by (with_reducible repeat (first|apply zm|apply zn|apply zo));exact HO138.out))
       (case aS=>exact (zB jAD))
       (case aL=>have:=LMc8.out;omega)
       intro v141 w15 ho hb hg hat;rw [← Ny140.out] at ho;replace HO_3:=zh (Kd.S_after (ok:=(fun _=>True)) jDF hg hat);replace BK130:=zh (yv (g:=gb130) (o:=.cells #[.slice (some ad135) l0_0.length c0_0,.int .i64 a0_1] 25 (0,0)) jAf hg (Kd.R_ne HO138.out BK130.out jB));replace BK131:=zh (yv (g:=gb131) (o:=.cells #[.slice none 0 0,.int .i64 0] 25 (0,0)) jA9 hg (Kd.R_ne HO138.out BK131.out jB));replace HB:=zh (hb);have HO142:=zh (ho);clear HO138 ho hb hg hat;obtain ⟨Ao16,co16,eo16⟩:=yk HO142.out;(first|subst eo16|(injection eo16 with f1_ f2_ f3_;have f4_:=f1_.symm;have f5_:=f3_.symm;clear f1_ f2_ f3_;subst f4_;subst f5_));refine hK.out _ _ ⟨(zz BK130.out 0).trans rfl,(zz BK130.out 1).trans rfl,((HB.out.cell (zl w _ hw135_0)).trans hw135_0),((HB.out.cell (zl w _ hw135_1)).trans hw135_1),((HB.out.cell (zl w _ hw139_0)).trans hw139_0),((HB.out.cell (zl w _ hw139_1)).trans hw139_1)⟩ (fun hHeld=>?_);clear hK K;refine norm_ (a':=?_) ?_ ?_;rotate_left
       ·
        show Act.put _ (some 27) _=_
        simp only [Act.put,zi,zj,zk,zG,zH]
        rfl
       refine pure_ (i:=15) (N:=some 28) (v:=?_) (a':=?_) (bm_ 16 19) rfl rfl (any_of HT_.out jA) (fun _ _ _ h=>h) (Or.inl ⟨by rfl,?_⟩) ?_ ?_;rotate_left;exact jb;rotate_left;exact jc
       refine one_ (i:=16) (N:=some 29) (bm_ 17 19) rfl rfl (one_of HT_.out jA) jB (fun K hK=>?_);refine value_ (w1:=?_) (v:=?_) (by rfl) rfl ?_ ?_;rotate_left 2
       ·
        go_simp
        constructor
        ·
         rfl
        rfl
       refine hK.out _ _ ⟨(zz (zg BK130.out _) 0).trans rfl,(zz (zg BK130.out _) 1).trans rfl,(World.cell?_alloc_lt _ _ _ (zl _ _ (((HB.out.cell (zl w _ hw135_0)).trans hw135_0)))).trans (((HB.out.cell (zl w _ hw135_0)).trans hw135_0)),(World.cell?_alloc_lt _ _ _ (zl _ _ (((HB.out.cell (zl w _ hw135_1)).trans hw135_1)))).trans (((HB.out.cell (zl w _ hw135_1)).trans hw135_1)),(World.cell?_alloc_lt _ _ _ (zl _ _ (((HB.out.cell (zl w _ hw139_0)).trans hw139_0)))).trans (((HB.out.cell (zl w _ hw139_0)).trans hw139_0)),(World.cell?_alloc_lt _ _ _ (zl _ _ (((HB.out.cell (zl w _ hw139_1)).trans hw139_1)))).trans (((HB.out.cell (zl w _ hw139_1)).trans hw139_1))⟩ (fun hHeld=>?_);clear hK K;refine norm_ (a':=?_) ?_ ?_;rotate_left
       ·
        show Act.put _ (some 29) _=_
        simp only [Act.put,zi,zj,zk,zG,zH]
        rfl
       refine one_ (i:=17) (N:=some 30) (bm_ 18 19) rfl rfl (one_of HT_.out jA) jB (fun K hK=>?_);refine Kd.S_append_step k60 (w0:=w) w.heap.size (by rfl) (.tmp 13) (.tmp 29) 23 60 (.agg #[(.int .i64 0),(.slice none 0 0)]) 32 rfl Try.underlying23 info60 rfl jB jD u3 x3_1 (⟨(rd_T60 l0_0 x4_1).f0,y140⟩ : S60) [.int .i64 ((rd_T60 l0_0 x4_1).f0),.slice Ao16 y140.length co16] (fun _=>True) (fun k_=>some k_=(.slice Ao16 y140.length co16 : Value).ownBlock) rfl rfl ?aP (fun k_ hk_=>((zM (ok':=fun k_=>((fun _=>True)) k_∧some k_≠(u3 : Value).ownBlock) (Kd.R_apart' (HO142.out) (Kd.S_typed HO_3.out) jB) (fun k_ hk=>⟨trivial,hk.2⟩))).1 k_ hk_.symm) ?aF ?aO ?aB ?aS ?aL ?_;(case aP=>exact k60_mkM _ _ _ (⟨(rd_T60 l0_0 x4_1).f0,y140⟩ : S60) (zM (Kd.R_tight rfl (zM (ok':=fun k_=>((fun _=>True)) k_∧some k_≠(u3 : Value).ownBlock) (Kd.R_apart' (HO142.out) (Kd.S_typed HO_3.out) jB) (fun k_ hk=>⟨trivial,hk.2⟩))) (fun _ h_=>h_)))
       (case aB=>exact jAD)
       (case aF=>exact (fun _ _=>trivial))
       (case aO=>exact (by (with_reducible repeat (first|apply Kd.S_alloc|apply Kd.S_drewN|apply Kd.S_drew));exact Kd.S_mono HO_3.out (fun k_ hk=>⟨trivial,fun e_=>hk.2 e_⟩)))
       (case aS=>exact (zB jAD))
       (case aL=>have:=LMc9.out;omega)
       intro v144 w17 ho hb hg hat;rw [← Ny143.out] at ho;replace BK130:=zh (yv (g:=gb130) (o:=.cells #[.slice (some ad135) l0_0.length c0_0,.int .i64 a0_1] 25 (0,0)) jAf hg (Kd.S_ne HO_3.out BK130.out jB));replace BK131:=zh (yv (g:=gb131) (o:=.cells #[.slice none 0 0,.int .i64 0] 25 (0,0)) jA9 hg (Kd.S_ne HO_3.out BK131.out jB));replace HB:=zh (hb);have HO145:=zh (ho);clear HO_3 HO142 ho hb hg hat;refine hK.out _ _ ⟨(zz BK130.out 0).trans rfl,(zz BK130.out 1).trans rfl,((HB.out.cell (zl w _ hw135_0)).trans hw135_0),((HB.out.cell (zl w _ hw135_1)).trans hw135_1),((HB.out.cell (zl w _ hw139_0)).trans hw139_0),((HB.out.cell (zl w _ hw139_1)).trans hw139_1)⟩ (fun hHeld=>?_);clear hK K;refine norm_ (a':=?_) ?_ ?_;rotate_left
       ·
        show Act.put _ (some 30) _=_
        simp only [Act.put,zi,zj,zk,zG,zH]
        rfl
       refine pure_ (i:=18) (N:=some 3) (v:=?_) (a':=?_) (bm_ 19 19) rfl rfl (any_of HT_.out jA) (fun _ _ _ h=>h) (Or.inl ⟨by rfl,?_⟩) ?_ ?_;rotate_left;exact jb;rotate_left;exact jc
       refine done_ (done_of HT_.out jA) ?_
       try go_wp2
       go_roundg k1
       case measure=>have:=HK1.out;omega
       case rel=>exact ⟨(y143),(wrap64 (x4_1+1)),jE,H',⟨jR⟩,⟨by (with_reducible repeat (first|apply Kd.S_alloc|apply Kd.S_drewN|apply Kd.S_drew));exact HO145.out⟩,⟨jAf⟩,⟨jA9⟩,⟨jAD⟩⟩
      rw [if_neg c9] at H;exact absurd H (by simp)
     rw [if_neg c8] at H;exact absurd H (by simp)
    rw [if_neg c7] at H;exact absurd H (by simp)
   rw [if_neg c6] at H;have c6b0 : decide (x4_1<(l0_0.length : Int))=false:=decide_eq_false c6;clear c6;simp only [Option.some.injEq,Prod.mk.injEq] at H;obtain ⟨rfl,rfl⟩:=H;have hnb18:=NB130_131.out;have hnc18:=NB131_130.out;obtain ⟨hcz19_0,hcz19_1,hfz19_0,hfz19_1⟩:=cB2 BK130.out;obtain ⟨Ao20,co20,eo20⟩:=Kd.S_slice HO_3.out;subst eo20;obtain ⟨hcz21_0,hcz21_1,hfz21_0,hfz21_1⟩:=cB2 BK131.out
   go_wp2
   refine bodyPost_ret (results_cell_row rfl _ _ gb131 25 #[.slice Ao20 x3_1.length co20,.int .i64 a0_1] (0,0) _ rfl (by (with_reducible repeat first|apply ze|apply zf|apply zg);refine zL (cs:=#[.slice Ao20 x3_1.length co20,.int .i64 0]) ?_ 1 _ rfl;(with_reducible repeat first|apply ze|apply zf|apply zg);refine zL (cs:=#[.slice none 0 0,.int .i64 0]) ?_ 0 _ rfl;(with_reducible repeat first|apply ze|apply zf|apply zg);refine zS ?_ NB131_130.out _;(with_reducible repeat first|apply ze|apply zf|apply zg);exact BK131.out) Try.underlying25 rfl jA) rfl ?_;exact ⟨_,jG,by (with_reducible repeat (first|apply Kd.S_alloc|apply Kd.S_drewN|apply Kd.S_drew));exact Kd.S_mono (Kd.S_far (p:=⟨gb131,1,none⟩) (Kd.S_far (p:=⟨gb131,0,none⟩) (Kd.S_far (p:=⟨gb130,0,none⟩) (Kd.S_types (Kd.S_types HO_3.out BK130.out jB) BK131.out jB) (fun _ hk=>hk.1.2) (.slice Ao20 x3_1.length co20)) (fun _ hk=>hk.2) (.slice Ao20 x3_1.length co20)) (fun _ hk=>hk.2) (.int .i64 a0_1)) (fun _ hk=>trivial),jAD⟩


def F0d.f (a0_0 : ByteArray) (a0_1 : Int) (a1_0 : ByteArray) (a1_1 : Int) : Option (Bool):=if (Op.bytesLess a0_0.toList a1_0.toList)=true then (some true) else (if a0_0.toList=a1_0.toList then (some (decide (a0_1<a1_1))) else (some false))
set_option maxHeartbeats 8000000 in
set_option maxRecDepth 100000 in
theorem F0d.calls (a0_0 : ByteArray) (a0_1 : Int) (a1_0 : ByteArray) (a1_1 : Int) (r : Bool) (w : World) (h : F0d.f a0_0 a0_1 a1_0 a1_1=some r) :
  Calls Try.prog 50 #[.agg #[.string a0_0,.int .i64 a0_1],.agg #[.string a1_0,.int .i64 a1_1]] w fun e w' => e = .returned (.bool r)∧Below w.heap.size w w':=by
 have hu28:=Try.underlying28;have HB:=zh (Below.refl w.heap.size w);have H : (if (Op.bytesLess a0_0.toList a1_0.toList)=true then (some true) else (if a0_0.toList=a1_0.toList then (some (decide (a0_1<a1_1))) else (some false)))=some r:=h;clear h
 by_cases c3 : (Op.bytesLess a0_0.toList a1_0.toList)=true
 ·
  rw [if_pos c3] at H
  have c3b0 : (Op.bytesLess a0_0.toList a1_0.toList)=true:=c3;clear c3;obtain rfl:=zU H
  go_enter Try.func50,Try.ntmps50
  go_wp2_with (first|((with_reducible refine zK (N:=2) rfl ?_);refine zI ?hg (N:=2) ?hd (cs:=#[.string a0_0,.int .i64 a0_1]) (t:=28) ?hr ?_;(case hd=>rfl);(case hg=>rfl);(case hr=>go_simp <;> rfl);intro gb146 hg w4 hbox hb;have BK146:=zh (hbox);have hH_:=cH jH hb hg;have GW146:=zh hH_.1;have GE146:=GW146;replace HB:=zh hH_.2;clear hb hbox hg hH_)|((with_reducible refine zK (N:=3) rfl ?_);refine zI ?hg (N:=3) ?hd (cs:=#[.string a1_0,.int .i64 a1_1]) (t:=28) ?hr ?_;(case hd=>rfl);(case hg=>rfl);(case hr=>go_simp <;> rfl);intro gb147 hg w5 hbox hb;have BK147:=zh (hbox);have hH_:=cH jCI hb hg;have GW147:=zh hH_.1;have GE147:=GW147;replace HB:=zh hH_.2;have NB146_147:=zh ((jCJ : gb146≠gb147));have NB147_146:=zh NB146_147.out.symm;replace BK146:=zh (cD BK146.out jBp hb);clear hb hbox hg hH_;have hnb6:=NB146_147.out;have hnc6:=NB147_146.out;obtain ⟨hcz7_0,hcz7_1,hfz7_0,hfz7_1⟩:=cB2 BK146.out;obtain ⟨hcz8_0,hcz8_1,hfz8_0,hfz8_1⟩:=cB2 BK147.out))
  go_ret
  exact ⟨jG,jCK⟩
 rw [if_neg c3] at H;have c3b0 : (Op.bytesLess a0_0.toList a1_0.toList)=false:=by simpa using c3
 clear c3
 by_cases c9 : a0_0.toList=a1_0.toList
 ·
  rw [if_pos c9] at H
  have c9b0 : (a0_0.toList == a1_0.toList)=true:=ya.mpr c9;have c9b1 : (a0_0.toList != a1_0.toList)=false:=zX.mpr c9;clear c9;obtain rfl:=zU H
  go_enter Try.func50,Try.ntmps50
  go_wp2_with (first|((with_reducible refine zK (N:=2) rfl ?_);refine zI ?hg (N:=2) ?hd (cs:=#[.string a0_0,.int .i64 a0_1]) (t:=28) ?hr ?_;(case hd=>rfl);(case hg=>rfl);(case hr=>go_simp <;> rfl);intro gb146 hg w10 hbox hb;have BK146:=zh (hbox);have hH_:=cH jH hb hg;have GW146:=zh hH_.1;have GE146:=GW146;replace HB:=zh hH_.2;clear hb hbox hg hH_)|((with_reducible refine zK (N:=3) rfl ?_);refine zI ?hg (N:=3) ?hd (cs:=#[.string a1_0,.int .i64 a1_1]) (t:=28) ?hr ?_;(case hd=>rfl);(case hg=>rfl);(case hr=>go_simp <;> rfl);intro gb147 hg w11 hbox hb;have BK147:=zh (hbox);have hH_:=cH jCI hb hg;have GW147:=zh hH_.1;have GE147:=GW147;replace HB:=zh hH_.2;have NB146_147:=zh ((jCJ : gb146≠gb147));have NB147_146:=zh NB146_147.out.symm;replace BK146:=zh (cD BK146.out jBp hb);clear hb hbox hg hH_;have hnb12:=NB146_147.out;have hnc12:=NB147_146.out;obtain ⟨hcz13_0,hcz13_1,hfz13_0,hfz13_1⟩:=cB2 BK146.out;obtain ⟨hcz14_0,hcz14_1,hfz14_0,hfz14_1⟩:=cB2 BK147.out))
  go_ret
  exact ⟨jG,jCK⟩
 rw [if_neg c9] at H;have c9b0 : (a0_0.toList == a1_0.toList)=false:=zY.mpr c9;have c9b1 : (a0_0.toList != a1_0.toList)=true:=zZ.mpr c9;obtain rfl:=zU H
 go_enter Try.func50,Try.ntmps50
 go_wp2_with (first|((with_reducible refine zK (N:=2) rfl ?_);refine zI ?hg (N:=2) ?hd (cs:=#[.string a0_0,.int .i64 a0_1]) (t:=28) ?hr ?_;(case hd=>rfl);(case hg=>rfl);(case hr=>go_simp <;> rfl);intro gb146 hg w15 hbox hb;have BK146:=zh (hbox);have hH_:=cH jH hb hg;have GW146:=zh hH_.1;have GE146:=GW146;replace HB:=zh hH_.2;clear hb hbox hg hH_)|((with_reducible refine zK (N:=3) rfl ?_);refine zI ?hg (N:=3) ?hd (cs:=#[.string a1_0,.int .i64 a1_1]) (t:=28) ?hr ?_;(case hd=>rfl);(case hg=>rfl);(case hr=>go_simp <;> rfl);intro gb147 hg w16 hbox hb;have BK147:=zh (hbox);have hH_:=cH jCI hb hg;have GW147:=zh hH_.1;have GE147:=GW147;replace HB:=zh hH_.2;have NB146_147:=zh ((jCJ : gb146≠gb147));have NB147_146:=zh NB146_147.out.symm;replace BK146:=zh (cD BK146.out jBp hb);clear hb hbox hg hH_;have hnb17:=NB146_147.out;have hnc17:=NB147_146.out;obtain ⟨hcz18_0,hcz18_1,hfz18_0,hfz18_1⟩:=cB2 BK146.out;obtain ⟨hcz19_0,hcz19_1,hfz19_0,hfz19_1⟩:=cB2 BK147.out))
 go_ret
 exact ⟨jG,jCK⟩


def Fa.l0 : Nat→Int→Int→List (S60)→Int→ByteArray→Int→Option (Int)
 | 0,_,_,_,_,_,_=>none
 | k+1,x5,x6,x149000,x149001,x150000,x150001=>if x6<(x149000.length : Int) then (if 0≤x6 then (if (((rd_T60 x149000 x6).f1).length : Int) > 0 then (if 0<(((rd_T60 x149000 x6).f1).length : Int) then ((F0d.f x150000 x150001 ((rd_T28 ((rd_T60 x149000 x6).f1) 0).f0) ((rd_T28 ((rd_T60 x149000 x6).f1) 0).f1)).bind fun t153=>(if t153=true then (Fa.l0 k x5 (wrap64 (x6+1)) x149000 x149001 x150000 x150001) else (Fa.l0 k x6 (wrap64 (x6+1)) x149000 x149001 x150000 x150001))) else (none)) else (Fa.l0 k x5 (wrap64 (x6+1)) x149000 x149001 x150000 x150001)) else (none)) else (some x5)
def Fa.f (k : Nat) (l0_0 : List (S60)) (a0_1 : Int) (a1_0 : ByteArray) (a1_1 : Int) : Option (Int):=Fa.l0 k 0 1 l0_0 a0_1 a1_0 a1_1
theorem Fa.mono_l : ∀ k,(∀ y0 y1 y2 y3 y4 y5,LeO (Fa.l0 k y0 y1 y2 y3 y4 y5) (Fa.l0 (k+1) y0 y1 y2 y3 y4 y5))
 | 0=>fun _ _ _ _ _ _ r h=>by simp [Fa.l0] at h
 | k+1=>by
  have ih0:=Fa.mono_l k;intro y0 y1 y2 y3 y4 y5;unfold Fa.l0
  repeat' first|(with_reducible first|exact ih0 _ _ _ _ _ _|exact zQ _|exact zN _|refine zP ?_ ?_|refine zO ?_ (fun _=>?_))|refine zP ?_ ?_|refine zO ?_ (fun _=>?_)
theorem Fa.mono : ∀ a0 a1 a2 a3 k,LeO (Fa.f k a0 a1 a2 a3) (Fa.f (k+1) a0 a1 a2 a3):=by
 intro a0 a1 a2 a3 k;have ih0:=Fa.mono_l k;unfold Fa.f
 repeat' first|(with_reducible first|exact ih0 _ _ _ _ _ _|exact zQ _|exact zN _|refine zP ?_ ?_|refine zO ?_ (fun _=>?_))|refine zP ?_ ?_|refine zO ?_ (fun _=>?_)
def Fa.T5 : Bool×List (List Nat×List Nat):=(true,[([],[]),([0],[0]),([],[]),([1,2],[1,2]),([3],[3]),([4],[4]),([5],[5]),([6],[6]),([7],[7]),([8],[8]),([8],[8]),([10,8],[8,10]),([8],[8]),([11,12,8],[8,11,12]),([13,8],[8,13]),([14,8],[8,14]),([15,8],[8,15]),([16,8],[8,16]),([9,17,8,8],[8,9,17]),([18,8],[8,18]),([8,19],[8,19])])
def Fa.B5 : List Nat:=[0,1,0,7,15,31,63,127,255,511,511,1535,511,7679,15871,32255,65023,130559,262143,524287,1048575]
theorem Fa.tab5 : rtab .any (opsOf Try.f39 5)=Fa.T5:=by kernel_rfl
theorem Fa.bits5 : waitsOk Fa.T5.2 Fa.B5=true:=by kernel_rfl
set_option maxHeartbeats 8000000 in
set_option maxRecDepth 100000 in
theorem Fa.calls (k : Nat) (A0_0 : Option Addr) (c0_0 : Nat) (l0_0 : List (S60)) (a0_1 : Int) (a1_0 : ByteArray) (a1_1 : Int) (r : Int) (w : World) (hr0_0 : Kd.C k60 w A0_0 l0_0.length l0_0) (hc0_0 : l0_0.length≤c0_0) (h : Fa.f k l0_0 a0_1 a1_0 a1_1=some r) :
  Calls Try.prog 39 #[.agg #[.slice A0_0 l0_0.length c0_0,.int .i64 a0_1],.agg #[.string a1_0,.int .i64 a1_1]] w fun e w' => e = .returned (.int .i64 r)∧Below w.heap.size w w':=by
 have hu25:=Try.underlying25;have hu28:=Try.underlying28;have HR0_0:=zh hr0_0;have HC0_0:=zh hc0_0;clear hr0_0 hc0_0;have HB:=zh (Below.refl w.heap.size w);have H : (Fa.l0 k 0 1 l0_0 a0_1 a1_0 a1_1)=some r:=h;clear h;have H':=zh H;clear H
 go_enter Try.func39,Try.ntmps39
 go_wp2_with (first|((with_reducible refine zK (N:=2) rfl ?_);refine zI ?hg (N:=2) ?hd (cs:=#[.slice A0_0 l0_0.length c0_0,.int .i64 a0_1]) (t:=25) ?hr ?_;(case hd=>rfl);(case hg=>rfl);(case hr=>go_simp <;> rfl);intro gb148 hg w3 hbox hb;have BK148:=zh (hbox);have hH_:=cH jH hb hg;have GW148:=zh hH_.1;have GE148:=GW148;replace HB:=zh hH_.2;clear hb hbox hg hH_)|((with_reducible refine zK (N:=3) rfl ?_);refine zI ?hg (N:=3) ?hd (cs:=#[.string a1_0,.int .i64 a1_1]) (t:=28) ?hr ?_;(case hd=>rfl);(case hg=>rfl);(case hr=>go_simp <;> rfl);intro gb149 hg w4 hbox hb;have BK149:=zh (hbox);have hH_:=cH (by repeat (with_reducible first|exact HB.out|apply za|apply zb|apply zc|refine zd ?_ GE148.out)) hb hg;have GW149:=zh hH_.1;have GE149:=GW149;replace HB:=zh hH_.2;have NB148_149:=zh ((by rw [hg];exact yc (yi (g:=gb148) (o:=.cells #[.slice A0_0 l0_0.length c0_0,.int .i64 a0_1] 25 (0,0)) jAg) : gb148≠gb149));have NB149_148:=zh NB148_149.out.symm;replace BK148:=zh (cD BK148.out jAg hb);clear hb hbox hg hH_))
 go_loopg [5,6] k (fun kq v5 v6 w' => ∃ (x5_1 : Int) (x6_1 : Int),v5 = .int .i64 x5_1∧v6 = .int .i64 x6_1∧Aside0 (Fa.l0 kq x5_1 x6_1 l0_0 a0_1 a1_0 a1_1=some r)∧Aside0 (kq≤k)∧Aside0 (w'.heap[gb148]? = some (.cells #[(.slice A0_0 l0_0.length c0_0),.int .i64 a0_1] 25 (0,0)))∧Aside0 (w'.heap[gb149]? = some (.cells #[.string a1_0,.int .i64 a1_1] 28 (0,0)))∧Aside0 (Below w.heap.size w w'))
 case atStart=>exact ⟨(0),(1),jE,jE,H',⟨ye _⟩,⟨jAg⟩,⟨jBA⟩,⟨jAo⟩⟩
 case round =>
  clear H'
  try clear p2
  try clear c3
  obtain ⟨x5_1,x6_1,rfl,rfl,HA,HK1,BK148,BK149,HB⟩:=hrel
  cases gk with
  | zero=>exact absurd HA.out (by simp [Fa.l0])
  | succ k1 =>
   have H:=HA.out;clear HA;simp only [Fa.l0] at H
   by_cases c5 : x6_1<(l0_0.length : Int)
   ·
    rw [if_pos c5] at H
    have c5b0 : decide (x6_1<(l0_0.length : Int))=true:=decide_eq_true c5;clear c5
    by_cases c6 : 0≤x6_1
    ·
     rw [if_pos c6] at H
     have c6b0 : decide (0≤x6_1)=true:=decide_eq_true c6;clear c6
     by_cases c7 : (((rd_T60 l0_0 x6_1).f1).length : Int) > 0
     ·
      rw [if_pos c7] at H
      have c7b0 : decide (0<(((rd_T60 l0_0 x6_1).f1).length : Int))=true:=decide_eq_true c7;have c7b1 : decide (0<((rd_T60 l0_0 x6_1).f1).length)=true:=decide_eq_true jD;clear c7
      by_cases c8 : 0<(((rd_T60 l0_0 x6_1).f1).length : Int)
      ·
       rw [if_pos c8] at H
       have c8b0 : decide (0<(((rd_T60 l0_0 x6_1).f1).length : Int))=true:=decide_eq_true c8;have c8b1 : decide (0<((rd_T60 l0_0 x6_1).f1).length)=true:=decide_eq_true jD;clear c8;replace H:=zT.mp H;obtain ⟨t153,A90,H⟩:=H;have A9:=zh A90;clear A90
       by_cases c10 : t153=true
       ·
        subst c10
        rw [if_pos rfl] at H;have H':=zh H;clear H;have hnb11:=NB148_149.out;have hnc11:=NB149_148.out;obtain ⟨hcz12_0,hcz12_1,hfz12_0,hfz12_1⟩:=cB2 BK148.out
        try go_wp2
        replace BK148:=zh (zf BK148.out);replace BK149:=zh (zf BK149.out);replace HB:=zh (zc HB.out);have p150 : 0≤(x6_1 : Int):=zy jC;have q150 : x6_1<(l0_0.length : Int):=zy jC;obtain ⟨ad150,A150_1,c150_1,e150,hx150_0,hx150_1,hl150_1,hi150_1⟩:=at_T60 HR0_0.out x6_1 p150 q150;have hw150_1:=hx150_1;have hw150_0:=hx150_0
        cases e150
        replace hx150_0:=(HB.out.cell (zl w _ hx150_0)).trans hx150_0;replace hx150_1:=(HB.out.cell (zl w _ hx150_1)).trans hx150_1;have HR150_1:=zh hi150_1;have HC150_1:=zh hl150_1;clear hi150_1 hl150_1;replace p150:=eq_true p150;replace q150:=eq_true q150;have p151 : 0≤(x6_1 : Int):=zy jC;have q151 : x6_1<(l0_0.length : Int):=zy jC;obtain ⟨ad151,A151_1,c151_1,e151,hx151_0,hx151_1,hl151_1,hi151_1⟩:=at_T60 HR0_0.out x6_1 p151 q151;have hw151_1:=hx151_1;have hw151_0:=hx151_0;obtain rfl : ad150=ad151:=(by injection e151);replace hx151_0:=(HB.out.cell (zl w _ hx151_0)).trans hx151_0;replace hx151_1:=(HB.out.cell (zl w _ hx151_1)).trans hx151_1;have HR151_1:=zh hi151_1;have HC151_1:=zh hl151_1;clear hi151_1 hl151_1;replace p151:=eq_true p151;replace q151:=eq_true q151;have ea_:=zU (hx150_1.symm.trans hx151_1);injection ea_ with ea_ en_ ec_;subst ea_;subst ec_;clear en_;have p152 : 0≤(0 : Int):=jD;have q152 : 0<(((rd_T60 l0_0 x6_1).f1).length : Int):=zy jC;obtain ⟨ad152,e152,hx152_0,hx152_1⟩:=at_T28 HR151_1.out 0 p152 q152;have hw152_1:=hx152_1;(try rw [show ((0 : Int)).toNat=0 from rfl] at hw152_1);(try rw [show 0*2=0 from rfl] at hw152_1);(try rw [Addr.add_zero'] at hw152_1);have hw152_0:=hx152_0;(try rw [show ((0 : Int)).toNat=0 from rfl] at hw152_0);(try rw [show 0*2=0 from rfl] at hw152_0);(try rw [Addr.add_zero'] at hw152_0)
        cases e152
        have qi152 : (0<((rd_T60 l0_0 x6_1).f1).length)=True:=eq_true jD;(try rw [show ((0 : Int)).toNat=0 from rfl] at hx152_0);(try rw [show 0*2=0 from rfl] at hx152_0);(try rw [Addr.add_zero'] at hx152_0);(try rw [show ((0 : Int)).toNat=0 from rfl] at hx152_1);(try rw [show 0*2=0 from rfl] at hx152_1);(try rw [Addr.add_zero'] at hx152_1);replace hx152_0:=(HB.out.cell (zl w _ hx152_0)).trans hx152_0;replace hx152_1:=(HB.out.cell (zl w _ hx152_1)).trans hx152_1;replace p152:=eq_true p152;replace q152:=eq_true q152;refine start_ (n:=21) (S:=fun w' => w'.cell? ⟨gb148,0,none⟩=some (.slice (some ad150) l0_0.length c0_0)∧w'.cell? ⟨gb148,1,none⟩=some (.int .i64 a0_1)∧w'.cell? ⟨gb149,0,none⟩=some (.string a1_0)∧w'.cell? ⟨gb149,1,none⟩=some (.int .i64 a1_1)∧w'.cell? (ad150.add ((x6_1).toNat*2))=some (.int .i64 ((rd_T60 l0_0 x6_1).f0))∧w'.cell? ⟨(ad150.add ((x6_1).toNat*2)).block,(ad150.add ((x6_1).toNat*2)).off+1,none⟩=some (.slice (some ad152) ((rd_T60 l0_0 x6_1).f1).length c150_1)∧w'.cell? (ad150.add ((x6_1).toNat*2))=some (.int .i64 ((rd_T60 l0_0 x6_1).f0))∧w'.cell? ⟨(ad150.add ((x6_1).toNat*2)).block,(ad150.add ((x6_1).toNat*2)).off+1,none⟩=some (.slice (some ad152) ((rd_T60 l0_0 x6_1).f1).length c150_1)∧w'.cell? ad152=some (.string ((rd_T28 ((rd_T60 l0_0 x6_1).f1) 0).f0))∧w'.cell? ⟨ad152.block,ad152.off+1,none⟩=some (.int .i64 ((rd_T28 ((rd_T60 l0_0 x6_1).f1) 0).f1))) (ds:=[]) (bm_ 0 21) jA rfl rfl ⟨(zz BK148.out 0).trans rfl,(zz BK148.out 1).trans rfl,(zz BK149.out 0).trans rfl,(zz BK149.out 1).trans rfl,((HB.out.cell (zl w _ hw150_0)).trans hw150_0),((HB.out.cell (zl w _ hw150_1)).trans hw150_1),((HB.out.cell (zl w _ hw151_0)).trans hw151_0),((HB.out.cell (zl w _ hw151_1)).trans hw151_1),((HB.out.cell (zl w _ hw152_0)).trans hw152_0),((HB.out.cell (zl w _ hw152_1)).trans hw152_1)⟩ (fun hHeld=>?_);refine with_tabW Fa.tab5 Fa.bits5 (fun HT_ HW_=>?_);generalize wr.drew=w13 at BK148 BK149 HB HR150_1 HR151_1 hx150_0 hx150_1 hx151_0 hx151_1 hx152_0 hx152_1 hHeld ⊢;refine pure_ (i:=0) (N:=some 14) (v:=?_) (a':=?_) (bm_ 1 21) rfl rfl (any_of HT_.out jA) (fun _ _ _ h=>h) (Or.inl ⟨by rfl,?_⟩) ?_ ?_;rotate_left;exact jb;rotate_left;exact jc
        refine pure_ (i:=2) (N:=some 16) (v:=?_) (a':=?_) #[true,false,true,false,false,false,false,false,false,false,false,false,false,false,false,false,false,false,false,false,false] rfl rfl (any_of HT_.out jA) (fun _ _ _ h=>h) (Or.inl ⟨by rfl,?_⟩) ?_ ?_;rotate_left;exact jb;rotate_left;exact jc
        refine take_ (i:=1) (N:=some 15) (v:=?_) (a':=?_) (bm_ 3 21) rfl rfl (yo HT_.out HW_.out jA) (fun _ _ _ h=>h) (Or.inl ⟨by rfl,?_⟩) hHeld ?_ ?_;rotate_left
        ·
         rintro w' ⟨s0,s1,s2,s3,s4,s5,s6,s7,s8,s9⟩
         go_simp
         with_reducible rfl
        rotate_left
        exact jc
        refine pure_ (i:=3) (N:=some 17) (v:=?_) (a':=?_) (bm_ 4 21) rfl rfl (any_of HT_.out jA) (fun _ _ _ h=>h) (Or.inl ⟨by rfl,?_⟩) ?_ ?_;rotate_left;exact jb;rotate_left;exact jc
        refine pure_ (i:=4) (N:=some 18) (v:=?_) (a':=?_) (bm_ 5 21) rfl rfl (any_of HT_.out jA) (fun _ _ _ h=>h) (Or.inl ⟨by rfl,?_⟩) ?_ ?_;rotate_left;exact jb;rotate_left;exact jc
        refine take_ (i:=5) (N:=some 19) (v:=?_) (a':=?_) (bm_ 6 21) rfl rfl (yo HT_.out HW_.out jA) (fun _ _ _ h=>h) (Or.inl ⟨by rfl,?_⟩) hHeld ?_ ?_;rotate_left
        ·
         rintro w' ⟨s0,s1,s2,s3,s4,s5,s6,s7,s8,s9⟩
         go_simp
         with_reducible rfl
        rotate_left
        exact jc
        refine pure_ (i:=6) (N:=some 20) (v:=?_) (a':=?_) (bm_ 7 21) rfl rfl (any_of HT_.out jA) (fun _ _ _ h=>h) (Or.inl ⟨by rfl,?_⟩) ?_ ?_;rotate_left;exact jb;rotate_left;exact jc
        refine pure_ (i:=7) (N:=some 21) (v:=?_) (a':=?_) (bm_ 8 21) rfl rfl (any_of HT_.out jA) (fun _ _ _ h=>h) (Or.inl ⟨by rfl,?_⟩) ?_ ?_;rotate_left;exact jb;rotate_left;exact jc
        refine pure_ (i:=8) (N:=some 22) (v:=?_) (a':=?_) (bm_ 9 21) rfl rfl (any_of HT_.out jA) (fun _ _ _ h=>h) (Or.inl ⟨by rfl,?_⟩) ?_ ?_;rotate_left;exact jb;rotate_left;exact jc
        refine pure_ (i:=10) (N:=some 24) (v:=?_) (a':=?_) #[true,true,true,true,true,true,true,true,true,false,true,false,false,false,false,false,false,false,false,false,false] rfl rfl (any_of HT_.out jA) (fun _ _ _ h=>h) (Or.inl ⟨by rfl,?_⟩) ?_ ?_;rotate_left;exact jb;rotate_left;exact jc
        refine pure_ (i:=12) (N:=some 26) (v:=?_) (a':=?_) #[true,true,true,true,true,true,true,true,true,false,true,false,true,false,false,false,false,false,false,false,false] rfl rfl (any_of HT_.out jA) (fun _ _ _ h=>h) (Or.inl ⟨by rfl,?_⟩) ?_ ?_;rotate_left;exact jb;rotate_left;exact jc
        refine take_ (i:=9) (N:=some 23) (v:=?_) (a':=?_) #[true,true,true,true,true,true,true,true,true,true,true,false,true,false,false,false,false,false,false,false,false] rfl rfl (yo HT_.out HW_.out jA) (fun _ _ _ h=>h) (Or.inl ⟨by rfl,?_⟩) hHeld ?_ ?_;rotate_left
        ·
         rintro w' ⟨s0,s1,s2,s3,s4,s5,s6,s7,s8,s9⟩
         go_simp
         with_reducible rfl
        rotate_left
        exact jc
        refine take_ (i:=11) (N:=some 25) (v:=?_) (a':=?_) (bm_ 13 21) rfl rfl (yo HT_.out HW_.out jA) (fun _ _ _ h=>h) (Or.inl ⟨by rfl,?_⟩) hHeld ?_ ?_;rotate_left
        ·
         rintro w' ⟨s0,s1,s2,s3,s4,s5,s6,s7,s8,s9⟩
         go_simp
         with_reducible rfl
        rotate_left
        exact jc
        refine pure_ (i:=13) (N:=some 27) (v:=?_) (a':=?_) (bm_ 14 21) rfl rfl (any_of HT_.out jA) (fun _ _ _ h=>h) (Or.inl ⟨by rfl,?_⟩) ?_ ?_;rotate_left;exact jb;rotate_left;exact jc
        refine pure_ (i:=14) (N:=some 28) (v:=?_) (a':=?_) (bm_ 15 21) rfl rfl (any_of HT_.out jA) (fun _ _ _ h=>h) (Or.inl ⟨by rfl,?_⟩) ?_ ?_;rotate_left;exact jb;rotate_left;exact jc
        refine take_ (i:=15) (N:=some 29) (v:=?_) (a':=?_) (bm_ 16 21) rfl rfl (yo HT_.out HW_.out jA) (fun _ _ _ h=>h) (Or.inl ⟨by rfl,?_⟩) hHeld ?_ ?_;rotate_left
        ·
         rintro w' ⟨s0,s1,s2,s3,s4,s5,s6,s7,s8,s9⟩
         go_simp
         with_reducible rfl
        rotate_left
        exact jc
        refine pure_ (i:=16) (N:=some 30) (v:=?_) (a':=?_) (bm_ 17 21) rfl rfl (any_of HT_.out jA) (fun _ _ _ h=>h) (Or.inl ⟨by rfl,?_⟩) ?_ ?_;rotate_left;exact jb;rotate_left;exact jc
        refine take_ (i:=17) (N:=some 31) (v:=?_) (a':=?_) (bm_ 18 21) rfl rfl (yo HT_.out HW_.out jA) (fun _ _ _ h=>h) (Or.inl ⟨by rfl,?_⟩) hHeld ?_ ?_;rotate_left
        ·
         rintro w' ⟨s0,s1,s2,s3,s4,s5,s6,s7,s8,s9⟩
         go_simp
         with_reducible rfl
        rotate_left
        exact jc
        refine one_ (i:=18) (N:=some 32) (bm_ 19 21) rfl rfl (one_of HT_.out jA) jB (fun K hK=>?_);refine goes_ Try.func50 jA rfl #[.agg #[.string a1_0,.int .i64 a1_1],.agg #[.string ((rd_T28 ((rd_T60 l0_0 x6_1).f1) 0).f0),.int .i64 ((rd_T28 ((rd_T60 l0_0 x6_1).f1) 0).f1)]] (by rfl) rfl rfl jF ?_
        with_reducible refine (F0d.calls  a1_0 a1_1 ((rd_T28 ((rd_T60 l0_0 x6_1).f1) 0).f0) ((rd_T28 ((rd_T60 l0_0 x6_1).f1) 0).f1) true _ A9.out).mono ?_
        rintro e w14 ⟨rfl,hb⟩;refine ⟨_,rfl,?_⟩;replace BK148:=zh (cD BK148.out jAg hb);replace BK149:=zh (cD BK149.out jBA hb);replace HB:=zh (zC jAo hb);(try clear hb);(try clear hb2);(try clear hk);(try clear hi);refine hK.out _ _ ⟨(zz BK148.out 0).trans rfl,(zz BK148.out 1).trans rfl,(zz BK149.out 0).trans rfl,(zz BK149.out 1).trans rfl,((HB.out.cell (zl w _ hw150_0)).trans hw150_0),((HB.out.cell (zl w _ hw150_1)).trans hw150_1),((HB.out.cell (zl w _ hw151_0)).trans hw151_0),((HB.out.cell (zl w _ hw151_1)).trans hw151_1),((HB.out.cell (zl w _ hw152_0)).trans hw152_0),((HB.out.cell (zl w _ hw152_1)).trans hw152_1)⟩ (fun hHeld=>?_);clear hK K;refine norm_ (a':=?_) ?_ ?_;rotate_left
        ·
         show Act.put _ (some 32) _=_
         simp only [Act.put,zi,zj,zk,zG,zH]
         rfl
        refine pure_ (i:=19) (N:=some 33) (v:=?_) (a':=?_) (bm_ 20 21) rfl rfl (any_of HT_.out jA) (fun _ _ _ h=>h) (Or.inl ⟨by rfl,?_⟩) ?_ ?_;rotate_left;exact jb;rotate_left;exact jc
        refine pure_ (i:=20) (N:=some 34) (v:=?_) (a':=?_) (bm_ 21 21) rfl rfl (any_of HT_.out jA) (fun _ _ _ h=>h) (Or.inl ⟨by rfl,?_⟩) ?_ ?_;rotate_left;exact jb;rotate_left;exact jc
        refine done_ (done_of HT_.out jA) ?_
        try go_wp2
        go_roundg k1
        case measure=>have:=HK1.out;omega
        case rel=>exact ⟨(x5_1),(wrap64 (x6_1+1)),jE,jE,H',⟨jR⟩,⟨jAg⟩,⟨jBA⟩,⟨jAo⟩⟩
       replace c10:=yb.mpr c10;subst c10;rw [if_neg (show ¬ (false=true) by decide)] at H;have H':=zh H;clear H;have hnb15:=NB148_149.out;have hnc15:=NB149_148.out;obtain ⟨hcz16_0,hcz16_1,hfz16_0,hfz16_1⟩:=cB2 BK148.out
       try go_wp2
       replace BK148:=zh (zf BK148.out);replace BK149:=zh (zf BK149.out);replace HB:=zh (zc HB.out);have p150 : 0≤(x6_1 : Int):=zy jC;have q150 : x6_1<(l0_0.length : Int):=zy jC;obtain ⟨ad150,A150_1,c150_1,e150,hx150_0,hx150_1,hl150_1,hi150_1⟩:=at_T60 HR0_0.out x6_1 p150 q150;have hw150_1:=hx150_1;have hw150_0:=hx150_0
       cases e150
       replace hx150_0:=(HB.out.cell (zl w _ hx150_0)).trans hx150_0;replace hx150_1:=(HB.out.cell (zl w _ hx150_1)).trans hx150_1;have HR150_1:=zh hi150_1;have HC150_1:=zh hl150_1;clear hi150_1 hl150_1;replace p150:=eq_true p150;replace q150:=eq_true q150;have p151 : 0≤(x6_1 : Int):=zy jC;have q151 : x6_1<(l0_0.length : Int):=zy jC;obtain ⟨ad151,A151_1,c151_1,e151,hx151_0,hx151_1,hl151_1,hi151_1⟩:=at_T60 HR0_0.out x6_1 p151 q151;have hw151_1:=hx151_1;have hw151_0:=hx151_0;obtain rfl : ad150=ad151:=(by injection e151);replace hx151_0:=(HB.out.cell (zl w _ hx151_0)).trans hx151_0;replace hx151_1:=(HB.out.cell (zl w _ hx151_1)).trans hx151_1;have HR151_1:=zh hi151_1;have HC151_1:=zh hl151_1;clear hi151_1 hl151_1;replace p151:=eq_true p151;replace q151:=eq_true q151;have ea_:=zU (hx150_1.symm.trans hx151_1);injection ea_ with ea_ en_ ec_;subst ea_;subst ec_;clear en_;have p152 : 0≤(0 : Int):=jD;have q152 : 0<(((rd_T60 l0_0 x6_1).f1).length : Int):=zy jC;obtain ⟨ad152,e152,hx152_0,hx152_1⟩:=at_T28 HR151_1.out 0 p152 q152;have hw152_1:=hx152_1;(try rw [show ((0 : Int)).toNat=0 from rfl] at hw152_1);(try rw [show 0*2=0 from rfl] at hw152_1);(try rw [Addr.add_zero'] at hw152_1);have hw152_0:=hx152_0;(try rw [show ((0 : Int)).toNat=0 from rfl] at hw152_0);(try rw [show 0*2=0 from rfl] at hw152_0);(try rw [Addr.add_zero'] at hw152_0)
       cases e152
       have qi152 : (0<((rd_T60 l0_0 x6_1).f1).length)=True:=eq_true jD;(try rw [show ((0 : Int)).toNat=0 from rfl] at hx152_0);(try rw [show 0*2=0 from rfl] at hx152_0);(try rw [Addr.add_zero'] at hx152_0);(try rw [show ((0 : Int)).toNat=0 from rfl] at hx152_1);(try rw [show 0*2=0 from rfl] at hx152_1);(try rw [Addr.add_zero'] at hx152_1);replace hx152_0:=(HB.out.cell (zl w _ hx152_0)).trans hx152_0;replace hx152_1:=(HB.out.cell (zl w _ hx152_1)).trans hx152_1;replace p152:=eq_true p152;replace q152:=eq_true q152;refine start_ (n:=21) (S:=fun w' => w'.cell? ⟨gb148,0,none⟩=some (.slice (some ad150) l0_0.length c0_0)∧w'.cell? ⟨gb148,1,none⟩=some (.int .i64 a0_1)∧w'.cell? ⟨gb149,0,none⟩=some (.string a1_0)∧w'.cell? ⟨gb149,1,none⟩=some (.int .i64 a1_1)∧w'.cell? (ad150.add ((x6_1).toNat*2))=some (.int .i64 ((rd_T60 l0_0 x6_1).f0))∧w'.cell? ⟨(ad150.add ((x6_1).toNat*2)).block,(ad150.add ((x6_1).toNat*2)).off+1,none⟩=some (.slice (some ad152) ((rd_T60 l0_0 x6_1).f1).length c150_1)∧w'.cell? (ad150.add ((x6_1).toNat*2))=some (.int .i64 ((rd_T60 l0_0 x6_1).f0))∧w'.cell? ⟨(ad150.add ((x6_1).toNat*2)).block,(ad150.add ((x6_1).toNat*2)).off+1,none⟩=some (.slice (some ad152) ((rd_T60 l0_0 x6_1).f1).length c150_1)∧w'.cell? ad152=some (.string ((rd_T28 ((rd_T60 l0_0 x6_1).f1) 0).f0))∧w'.cell? ⟨ad152.block,ad152.off+1,none⟩=some (.int .i64 ((rd_T28 ((rd_T60 l0_0 x6_1).f1) 0).f1))) (ds:=[]) (bm_ 0 21) jA rfl rfl ⟨(zz BK148.out 0).trans rfl,(zz BK148.out 1).trans rfl,(zz BK149.out 0).trans rfl,(zz BK149.out 1).trans rfl,((HB.out.cell (zl w _ hw150_0)).trans hw150_0),((HB.out.cell (zl w _ hw150_1)).trans hw150_1),((HB.out.cell (zl w _ hw151_0)).trans hw151_0),((HB.out.cell (zl w _ hw151_1)).trans hw151_1),((HB.out.cell (zl w _ hw152_0)).trans hw152_0),((HB.out.cell (zl w _ hw152_1)).trans hw152_1)⟩ (fun hHeld=>?_);refine with_tabW Fa.tab5 Fa.bits5 (fun HT_ HW_=>?_);generalize wr.drew=w17 at BK148 BK149 HB HR150_1 HR151_1 hx150_0 hx150_1 hx151_0 hx151_1 hx152_0 hx152_1 hHeld ⊢;refine pure_ (i:=0) (N:=some 14) (v:=?_) (a':=?_) (bm_ 1 21) rfl rfl (any_of HT_.out jA) (fun _ _ _ h=>h) (Or.inl ⟨by rfl,?_⟩) ?_ ?_;rotate_left;exact jb;rotate_left;exact jc
       refine pure_ (i:=2) (N:=some 16) (v:=?_) (a':=?_) #[true,false,true,false,false,false,false,false,false,false,false,false,false,false,false,false,false,false,false,false,false] rfl rfl (any_of HT_.out jA) (fun _ _ _ h=>h) (Or.inl ⟨by rfl,?_⟩) ?_ ?_;rotate_left;exact jb;rotate_left;exact jc
       refine take_ (i:=1) (N:=some 15) (v:=?_) (a':=?_) (bm_ 3 21) rfl rfl (yo HT_.out HW_.out jA) (fun _ _ _ h=>h) (Or.inl ⟨by rfl,?_⟩) hHeld ?_ ?_;rotate_left
       ·
        rintro w' ⟨s0,s1,s2,s3,s4,s5,s6,s7,s8,s9⟩
        go_simp
        with_reducible rfl
       rotate_left
       exact jc
       refine pure_ (i:=3) (N:=some 17) (v:=?_) (a':=?_) (bm_ 4 21) rfl rfl (any_of HT_.out jA) (fun _ _ _ h=>h) (Or.inl ⟨by rfl,?_⟩) ?_ ?_;rotate_left;exact jb;rotate_left;exact jc
       refine pure_ (i:=4) (N:=some 18) (v:=?_) (a':=?_) (bm_ 5 21) rfl rfl (any_of HT_.out jA) (fun _ _ _ h=>h) (Or.inl ⟨by rfl,?_⟩) ?_ ?_;rotate_left;exact jb;rotate_left;exact jc
       refine take_ (i:=5) (N:=some 19) (v:=?_) (a':=?_) (bm_ 6 21) rfl rfl (yo HT_.out HW_.out jA) (fun _ _ _ h=>h) (Or.inl ⟨by rfl,?_⟩) hHeld ?_ ?_;rotate_left
       ·
        rintro w' ⟨s0,s1,s2,s3,s4,s5,s6,s7,s8,s9⟩
        go_simp
        with_reducible rfl
       rotate_left
       exact jc
       refine pure_ (i:=6) (N:=some 20) (v:=?_) (a':=?_) (bm_ 7 21) rfl rfl (any_of HT_.out jA) (fun _ _ _ h=>h) (Or.inl ⟨by rfl,?_⟩) ?_ ?_;rotate_left;exact jb;rotate_left;exact jc
       refine pure_ (i:=7) (N:=some 21) (v:=?_) (a':=?_) (bm_ 8 21) rfl rfl (any_of HT_.out jA) (fun _ _ _ h=>h) (Or.inl ⟨by rfl,?_⟩) ?_ ?_;rotate_left;exact jb;rotate_left;exact jc
       refine pure_ (i:=8) (N:=some 22) (v:=?_) (a':=?_) (bm_ 9 21) rfl rfl (any_of HT_.out jA) (fun _ _ _ h=>h) (Or.inl ⟨by rfl,?_⟩) ?_ ?_;rotate_left;exact jb;rotate_left;exact jc
       refine pure_ (i:=10) (N:=some 24) (v:=?_) (a':=?_) #[true,true,true,true,true,true,true,true,true,false,true,false,false,false,false,false,false,false,false,false,false] rfl rfl (any_of HT_.out jA) (fun _ _ _ h=>h) (Or.inl ⟨by rfl,?_⟩) ?_ ?_;rotate_left;exact jb;rotate_left;exact jc
       refine pure_ (i:=12) (N:=some 26) (v:=?_) (a':=?_) #[true,true,true,true,true,true,true,true,true,false,true,false,true,false,false,false,false,false,false,false,false] rfl rfl (any_of HT_.out jA) (fun _ _ _ h=>h) (Or.inl ⟨by rfl,?_⟩) ?_ ?_;rotate_left;exact jb;rotate_left;exact jc
       refine take_ (i:=9) (N:=some 23) (v:=?_) (a':=?_) #[true,true,true,true,true,true,true,true,true,true,true,false,true,false,false,false,false,false,false,false,false] rfl rfl (yo HT_.out HW_.out jA) (fun _ _ _ h=>h) (Or.inl ⟨by rfl,?_⟩) hHeld ?_ ?_;rotate_left
       ·
        rintro w' ⟨s0,s1,s2,s3,s4,s5,s6,s7,s8,s9⟩
        go_simp
        with_reducible rfl
       rotate_left
       exact jc
       refine take_ (i:=11) (N:=some 25) (v:=?_) (a':=?_) (bm_ 13 21) rfl rfl (yo HT_.out HW_.out jA) (fun _ _ _ h=>h) (Or.inl ⟨by rfl,?_⟩) hHeld ?_ ?_;rotate_left
       ·
        rintro w' ⟨s0,s1,s2,s3,s4,s5,s6,s7,s8,s9⟩
        go_simp
        with_reducible rfl
       rotate_left
       exact jc
       refine pure_ (i:=13) (N:=some 27) (v:=?_) (a':=?_) (bm_ 14 21) rfl rfl (any_of HT_.out jA) (fun _ _ _ h=>h) (Or.inl ⟨by rfl,?_⟩) ?_ ?_;rotate_left;exact jb;rotate_left;exact jc
       refine pure_ (i:=14) (N:=some 28) (v:=?_) (a':=?_) (bm_ 15 21) rfl rfl (any_of HT_.out jA) (fun _ _ _ h=>h) (Or.inl ⟨by rfl,?_⟩) ?_ ?_;rotate_left;exact jb;rotate_left;exact jc
       refine take_ (i:=15) (N:=some 29) (v:=?_) (a':=?_) (bm_ 16 21) rfl rfl (yo HT_.out HW_.out jA) (fun _ _ _ h=>h) (Or.inl ⟨by rfl,?_⟩) hHeld ?_ ?_;rotate_left
       ·
        rintro w' ⟨s0,s1,s2,s3,s4,s5,s6,s7,s8,s9⟩
        go_simp
        with_reducible rfl
       rotate_left
       exact jc
       refine pure_ (i:=16) (N:=some 30) (v:=?_) (a':=?_) (bm_ 17 21) rfl rfl (any_of HT_.out jA) (fun _ _ _ h=>h) (Or.inl ⟨by rfl,?_⟩) ?_ ?_;rotate_left;exact jb;rotate_left;exact jc
       refine take_ (i:=17) (N:=some 31) (v:=?_) (a':=?_) (bm_ 18 21) rfl rfl (yo HT_.out HW_.out jA) (fun _ _ _ h=>h) (Or.inl ⟨by rfl,?_⟩) hHeld ?_ ?_;rotate_left
       ·
        rintro w' ⟨s0,s1,s2,s3,s4,s5,s6,s7,s8,s9⟩
        go_simp
        with_reducible rfl
       rotate_left
       exact jc
       refine one_ (i:=18) (N:=some 32) (bm_ 19 21) rfl rfl (one_of HT_.out jA) jB (fun K hK=>?_);refine goes_ Try.func50 jA rfl #[.agg #[.string a1_0,.int .i64 a1_1],.agg #[.string ((rd_T28 ((rd_T60 l0_0 x6_1).f1) 0).f0),.int .i64 ((rd_T28 ((rd_T60 l0_0 x6_1).f1) 0).f1)]] (by rfl) rfl rfl jF ?_
       with_reducible refine (F0d.calls  a1_0 a1_1 ((rd_T28 ((rd_T60 l0_0 x6_1).f1) 0).f0) ((rd_T28 ((rd_T60 l0_0 x6_1).f1) 0).f1) false _ A9.out).mono ?_
       rintro e w18 ⟨rfl,hb⟩;refine ⟨_,rfl,?_⟩;replace BK148:=zh (cD BK148.out jAg hb);replace BK149:=zh (cD BK149.out jBA hb);replace HB:=zh (zC jAo hb);(try clear hb);(try clear hb2);(try clear hk);(try clear hi);refine hK.out _ _ ⟨(zz BK148.out 0).trans rfl,(zz BK148.out 1).trans rfl,(zz BK149.out 0).trans rfl,(zz BK149.out 1).trans rfl,((HB.out.cell (zl w _ hw150_0)).trans hw150_0),((HB.out.cell (zl w _ hw150_1)).trans hw150_1),((HB.out.cell (zl w _ hw151_0)).trans hw151_0),((HB.out.cell (zl w _ hw151_1)).trans hw151_1),((HB.out.cell (zl w _ hw152_0)).trans hw152_0),((HB.out.cell (zl w _ hw152_1)).trans hw152_1)⟩ (fun hHeld=>?_);clear hK K;refine norm_ (a':=?_) ?_ ?_;rotate_left
       ·
        show Act.put _ (some 32) _=_
        simp only [Act.put,zi,zj,zk,zG,zH]
        rfl
       refine pure_ (i:=19) (N:=some 33) (v:=?_) (a':=?_) (bm_ 20 21) rfl rfl (any_of HT_.out jA) (fun _ _ _ h=>h) (Or.inl ⟨by rfl,?_⟩) ?_ ?_;rotate_left;exact jb;rotate_left;exact jc
       refine pure_ (i:=20) (N:=some 34) (v:=?_) (a':=?_) (bm_ 21 21) rfl rfl (any_of HT_.out jA) (fun _ _ _ h=>h) (Or.inl ⟨by rfl,?_⟩) ?_ ?_;rotate_left;exact jb;rotate_left;exact jc
       refine done_ (done_of HT_.out jA) ?_
       try go_wp2
       go_roundg k1
       case measure=>have:=HK1.out;omega
       case rel=>exact ⟨(x6_1),(wrap64 (x6_1+1)),jE,jE,H',⟨jR⟩,⟨jAg⟩,⟨jBA⟩,⟨jAo⟩⟩
      rw [if_neg c8] at H;exact absurd H (by simp)
     rw [if_neg c7] at H;have c7b0 : decide (0<(((rd_T60 l0_0 x6_1).f1).length : Int))=false:=decide_eq_false c7;have c7b1 : decide (0<((rd_T60 l0_0 x6_1).f1).length)=false:=decide_eq_false jD;clear c7;have H':=zh H;clear H;have hnb19:=NB148_149.out;have hnc19:=NB149_148.out;obtain ⟨hcz20_0,hcz20_1,hfz20_0,hfz20_1⟩:=cB2 BK148.out
     try go_wp2
     replace BK148:=zh (zf BK148.out);replace BK149:=zh (zf BK149.out);replace HB:=zh (zc HB.out);have p150 : 0≤(x6_1 : Int):=zy jC;have q150 : x6_1<(l0_0.length : Int):=zy jC;obtain ⟨ad150,A150_1,c150_1,e150,hx150_0,hx150_1,hl150_1,hi150_1⟩:=at_T60 HR0_0.out x6_1 p150 q150;have hw150_1:=hx150_1;have hw150_0:=hx150_0
     cases e150
     replace hx150_0:=(HB.out.cell (zl w _ hx150_0)).trans hx150_0;replace hx150_1:=(HB.out.cell (zl w _ hx150_1)).trans hx150_1;have HR150_1:=zh hi150_1;have HC150_1:=zh hl150_1;clear hi150_1 hl150_1;replace p150:=eq_true p150;replace q150:=eq_true q150;refine start_ (n:=21) (S:=fun w' => w'.cell? ⟨gb148,0,none⟩=some (.slice (some ad150) l0_0.length c0_0)∧w'.cell? ⟨gb148,1,none⟩=some (.int .i64 a0_1)∧w'.cell? (ad150.add ((x6_1).toNat*2))=some (.int .i64 ((rd_T60 l0_0 x6_1).f0))∧w'.cell? ⟨(ad150.add ((x6_1).toNat*2)).block,(ad150.add ((x6_1).toNat*2)).off+1,none⟩=some (.slice A150_1 ((rd_T60 l0_0 x6_1).f1).length c150_1)) (ds:=[]) (bm_ 0 21) jA rfl rfl ⟨(zz BK148.out 0).trans rfl,(zz BK148.out 1).trans rfl,((HB.out.cell (zl w _ hw150_0)).trans hw150_0),((HB.out.cell (zl w _ hw150_1)).trans hw150_1)⟩ (fun hHeld=>?_);refine with_tabW Fa.tab5 Fa.bits5 (fun HT_ HW_=>?_);generalize wr.drew=w21 at BK148 BK149 HB HR150_1 hx150_0 hx150_1 hHeld ⊢;refine pure_ (i:=0) (N:=some 14) (v:=?_) (a':=?_) (bm_ 1 21) rfl rfl (any_of HT_.out jA) (fun _ _ _ h=>h) (Or.inl ⟨by rfl,?_⟩) ?_ ?_;rotate_left;exact jb;rotate_left;exact jc
     refine pure_ (i:=2) (N:=some 16) (v:=?_) (a':=?_) #[true,false,true,false,false,false,false,false,false,false,false,false,false,false,false,false,false,false,false,false,false] rfl rfl (any_of HT_.out jA) (fun _ _ _ h=>h) (Or.inl ⟨by rfl,?_⟩) ?_ ?_;rotate_left;exact jb;rotate_left;exact jc
     refine take_ (i:=1) (N:=some 15) (v:=?_) (a':=?_) (bm_ 3 21) rfl rfl (yo HT_.out HW_.out jA) (fun _ _ _ h=>h) (Or.inl ⟨by rfl,?_⟩) hHeld ?_ ?_;rotate_left
     ·
      rintro w' ⟨s0,s1,s2,s3⟩
      go_simp
      with_reducible rfl
     rotate_left
     exact jc
     refine pure_ (i:=3) (N:=some 17) (v:=?_) (a':=?_) (bm_ 4 21) rfl rfl (any_of HT_.out jA) (fun _ _ _ h=>h) (Or.inl ⟨by rfl,?_⟩) ?_ ?_;rotate_left;exact jb;rotate_left;exact jc
     refine pure_ (i:=4) (N:=some 18) (v:=?_) (a':=?_) (bm_ 5 21) rfl rfl (any_of HT_.out jA) (fun _ _ _ h=>h) (Or.inl ⟨by rfl,?_⟩) ?_ ?_;rotate_left;exact jb;rotate_left;exact jc
     refine take_ (i:=5) (N:=some 19) (v:=?_) (a':=?_) (bm_ 6 21) rfl rfl (yo HT_.out HW_.out jA) (fun _ _ _ h=>h) (Or.inl ⟨by rfl,?_⟩) hHeld ?_ ?_;rotate_left
     ·
      rintro w' ⟨s0,s1,s2,s3⟩
      go_simp
      with_reducible rfl
     rotate_left
     exact jc
     refine pure_ (i:=6) (N:=some 20) (v:=?_) (a':=?_) (bm_ 7 21) rfl rfl (any_of HT_.out jA) (fun _ _ _ h=>h) (Or.inl ⟨by rfl,?_⟩) ?_ ?_;rotate_left;exact jb;rotate_left;exact jc
     refine pure_ (i:=7) (N:=some 21) (v:=?_) (a':=?_) (bm_ 8 21) rfl rfl (any_of HT_.out jA) (fun _ _ _ h=>h) (Or.inl ⟨by rfl,?_⟩) ?_ ?_;rotate_left;exact jb;rotate_left;exact jc
     refine pure_ (i:=8) (N:=some 22) (v:=?_) (a':=?_) (bm_ 9 21) rfl rfl (any_of HT_.out jA) (fun _ _ _ h=>h) (Or.inl ⟨by rfl,?_⟩) ?_ ?_;rotate_left;exact jb;rotate_left;exact jc
     refine pure_ (i:=9) (N:=some 23) (v:=undef) (a':=?_) (bm_ 10 21) rfl rfl (any_of HT_.out jA) (fun _ _ _ h=>h) (Or.inr ⟨by rfl,rfl⟩) ?_ ?_;rotate_left
     exact jc
     refine pure_ (i:=10) (N:=some 24) (v:=undef) (a':=?_) (bm_ 11 21) rfl rfl (any_of HT_.out jA) (fun _ _ _ h=>h) (Or.inr ⟨by rfl,rfl⟩) ?_ ?_;rotate_left
     exact jc
     refine pure_ (i:=11) (N:=some 25) (v:=undef) (a':=?_) (bm_ 12 21) rfl rfl (any_of HT_.out jA) (fun _ _ _ h=>h) (Or.inr ⟨by rfl,rfl⟩) ?_ ?_;rotate_left
     exact jc
     refine pure_ (i:=12) (N:=some 26) (v:=undef) (a':=?_) (bm_ 13 21) rfl rfl (any_of HT_.out jA) (fun _ _ _ h=>h) (Or.inr ⟨by rfl,rfl⟩) ?_ ?_;rotate_left
     exact jc
     refine pure_ (i:=13) (N:=some 27) (v:=undef) (a':=?_) (bm_ 14 21) rfl rfl (any_of HT_.out jA) (fun _ _ _ h=>h) (Or.inr ⟨by rfl,rfl⟩) ?_ ?_;rotate_left
     exact jc
     refine pure_ (i:=14) (N:=some 28) (v:=undef) (a':=?_) (bm_ 15 21) rfl rfl (any_of HT_.out jA) (fun _ _ _ h=>h) (Or.inr ⟨by rfl,rfl⟩) ?_ ?_;rotate_left
     exact jc
     refine pure_ (i:=15) (N:=some 29) (v:=undef) (a':=?_) (bm_ 16 21) rfl rfl (any_of HT_.out jA) (fun _ _ _ h=>h) (Or.inr ⟨by rfl,rfl⟩) ?_ ?_;rotate_left
     exact jc
     refine pure_ (i:=16) (N:=some 30) (v:=undef) (a':=?_) (bm_ 17 21) rfl rfl (any_of HT_.out jA) (fun _ _ _ h=>h) (Or.inr ⟨by rfl,rfl⟩) ?_ ?_;rotate_left
     exact jc
     refine pure_ (i:=17) (N:=some 31) (v:=undef) (a':=?_) (bm_ 18 21) rfl rfl (any_of HT_.out jA) (fun _ _ _ h=>h) (Or.inr ⟨by rfl,rfl⟩) ?_ ?_;rotate_left
     exact jc
     refine pure_ (i:=18) (N:=some 32) (v:=undef) (a':=?_) (bm_ 19 21) rfl rfl (any_of HT_.out jA) (fun _ _ _ h=>h) (Or.inr ⟨by rfl,rfl⟩) ?_ ?_;rotate_left
     exact jc
     refine pure_ (i:=19) (N:=some 33) (v:=undef) (a':=?_) (bm_ 20 21) rfl rfl (any_of HT_.out jA) (fun _ _ _ h=>h) (Or.inr ⟨by rfl,rfl⟩) ?_ ?_;rotate_left
     exact jc
     refine pure_ (i:=20) (N:=some 34) (v:=?_) (a':=?_) (bm_ 21 21) rfl rfl (any_of HT_.out jA) (fun _ _ _ h=>h) (Or.inl ⟨by rfl,?_⟩) ?_ ?_;rotate_left;exact jb;rotate_left;exact jc
     refine done_ (done_of HT_.out jA) ?_
     try go_wp2
     go_roundg k1
     case measure=>have:=HK1.out;omega
     case rel=>exact ⟨(x5_1),(wrap64 (x6_1+1)),jE,jE,H',⟨jR⟩,⟨jAg⟩,⟨jBA⟩,⟨jAo⟩⟩
    rw [if_neg c6] at H;exact absurd H (by simp)
   rw [if_neg c5] at H;have c5b0 : decide (x6_1<(l0_0.length : Int))=false:=decide_eq_false c5;clear c5;obtain rfl:=zU H;have hnb22:=NB148_149.out;have hnc22:=NB149_148.out;obtain ⟨hcz23_0,hcz23_1,hfz23_0,hfz23_1⟩:=cB2 BK148.out
   go_wp2
   go_ret
   exact ⟨jG,jAo⟩


theorem eqA28 (d : Nat) (w : World) (x0 y0 : ByteArray) (x1 y1 : Int) :
  (Op.equalIn (d+2) 28 (.agg #[.string x0,.int .i64 x1]) (.agg #[.string y0,.int .i64 y1])).run Try.prog w = .ok (x0.toList == y0.toList && (x1 == y1)) w:=by
 refine eqA_of Try.underlying28 jA ?_;refine eqf_cons (by rfl) (by go_simp;rfl) (by go_simp;rfl) (by go_simp) ?_;exact eqf_last (by rfl) (by go_simp;rfl) (by go_simp;rfl) (by go_simp)
end Go.Proofs.Ytgifonogfgpjdaa.Q
end
