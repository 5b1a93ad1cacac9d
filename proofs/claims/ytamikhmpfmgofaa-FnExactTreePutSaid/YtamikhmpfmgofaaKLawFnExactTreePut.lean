/- FnExactTreePut: for all arguments the law answers true, and they read behind the call as they read before. No condition. -/
import Derived.Test.YtamikhmpfmgofaaKLawFnExactTreePutp26
import Derived.Test.YtamikhmpfmgofaaRows
import Derived.Carry
section
namespace Go.Proofs.Ytamikhmpfmgofaa.Q
open Go.RowKit Go.Proofs.YtamikhmpfmgofaaW.PrintWords Go.Proofs.YtamikhmpfmgofaaW.PrintLast Go.Proofs.YtamikhmpfmgofaaW.PrintMore
attribute [local go_sem] max2_int min2_int max_two min_two max_three min_three max_four min_four max2_str min2_str str_geq str_gtr str_leq
set_option linter.unusedVariables false
set_option linter.unusedSimpArgs false
attribute [local go_sem high] eqA51
theorem Fk.three (w : World) (o0 o1 o2 : Obj) : (((w.alloc o0).alloc o1).alloc o2).heap[w.heap.size]? = some o0∧(((w.alloc o0).alloc o1).alloc o2).heap[w.heap.size+1]? = some o1∧(((w.alloc o0).alloc o1).alloc o2).heap[w.heap.size+1+1]? = some o2∧Below w.heap.size w (((w.alloc o0).alloc o1).alloc o2):=by
 refine ⟨zg (zg (blk_new w _) _) _,zg ?_ _,?_,za (za (za (Below.refl _ _) _) _) _⟩
 ·
  have:=blk_new (w.alloc o0) o1
  simpa using this
 have:=blk_new ((w.alloc o0).alloc o1) o2
 simpa using this
theorem Fk.at_F {w : World} {ok : Nat→Prop} {A : Option Addr} {n : Nat} {xs : List S67} (h : Kd.F k67 w ok A n xs) (i : Int) (h0 : 0≤i) (h1 : i<n) : ∃ ad A1 c1,A=some ad∧w.cell? ⟨(ad.add (i.toNat*2)).block,(ad.add (i.toNat*2)).off+1,none⟩=some (.slice A1 (rd_T67 xs i).f1.length c1)∧(rd_T67 xs i).f1.length≤c1∧Kd.F k51 w ok A1 (rd_T67 xs i).f1.length (rd_T67 xs i).f1:=by
 obtain ⟨ad,c,e,_,hK,hc0,_⟩:=Kd.F_get h z67 i h0 h1;have hc : ∀ j u,c[j]? = some u→w.cell? (ad.add (i.toNat*2+j))=some u:=hc0;obtain ⟨A1,c1,rfl,l1,g1⟩:=k67_openF hK;exact ⟨ad,A1,c1,e,jBc,l1,g1⟩
theorem Fk.w_next (i : Nat) (h : i≤4611686018427387904) : wrap64 ((i : Int)+1)=((i+1 : Nat) : Int):=by unfold wrap64;omega
theorem Fk.K_M {w w' : World} {base : Nat} {ok : Nat→Prop} (x : S51) (cs : List Value) (h : k51.K w' x cs) : k51.M w base ok x cs:=by rw [k51_open h];exact k51_mkM _ _ _ _
def Fk.at : List S51→ByteArray→Int→Nat→Option Nat
 | [],_,_,_=>none
 | x :: xs,key,id,i=>if (!(x.f0.toList == key.toList) || (!(x.f1 == id)))=true then Fk.at xs key id (i+1) else some i
def Fk.f (k : Nat) (l0_0 : List (S67)) (a0_1 : Int) (a1_0 : ByteArray) (a1_1 : Int) : Option ((List (S67))×Int×Int):=(F8.f k l0_0 a0_1 a1_0 a1_1).bind fun pl=>(if 0≤pl then (if pl<(l0_0.length : Int) then (if l0_0.length≤4611686018427387904∧((rd_T67 l0_0 pl).f1).length≤1000000 then (match Fk.at ((rd_T67 l0_0 pl).f1) a1_0 a1_1 0 with|none=>some (l0_0,a0_1,5)|some i=>((F3.f k l0_0 a0_1).bind fun t=>(if pl<(t.1.length : Int)∧t.1.length≤1000000 then (if ((rd_T67 l0_0 pl).f1).length=1∧1<t.1.length then some (((t.1.set pl.toNat (⟨(rd_T67 t.1 pl).f0,((rd_T67 l0_0 pl).f1).take i++((rd_T67 l0_0 pl).f1).drop (i+1)⟩ : S67)).take pl.toNat)++((t.1.set pl.toNat (⟨(rd_T67 t.1 pl).f0,((rd_T67 l0_0 pl).f1).take i++((rd_T67 l0_0 pl).f1).drop (i+1)⟩ : S67)).drop (pl.toNat+1)),t.2,0) else some (t.1.set pl.toNat (⟨(rd_T67 t.1 pl).f0,((rd_T67 l0_0 pl).f1).take i++((rd_T67 l0_0 pl).f1).drop (i+1)⟩ : S67),t.2,0)) else none))) else none) else none) else none)
theorem Fk.mono : ∀ a0 a1 a2 a3 k,LeO (Fk.f k a0 a1 a2 a3) (Fk.f (k+1) a0 a1 a2 a3):=by
 intro a0 a1 a2 a3 k;unfold Fk.f;refine zO (F8.mono _ _ _ _ _) (fun pl=>zP (zP (zP ?_ (zN _)) (zN _)) (zN _))
 cases Fk.at ((rd_T67 a0 pl).f1) a2 a3 0 with
 | none=>exact zQ _
 | some i=>exact zO (F3.mono _ _ _) (fun _=>zQ _)
set_option maxHeartbeats 16000000 in
set_option maxRecDepth 100000 in
theorem Fk.calls (k : Nat) (P0_0_ : Nat→Prop) (A0_0 : Option Addr) (c0_0 : Nat) (l0_0 : List (S67)) (a0_1 : Int) (a1_0 : ByteArray) (a1_1 : Int) (r1 : List (S67)) (r2 : Int) (r3 : Int) (w : World) (hs0_0 : Kd.V k67 67 w w.heap.size (fun k_=>P0_0_ k_) (.slice A0_0 l0_0.length c0_0) l0_0) (h : Fk.f k l0_0 a0_1 a1_0 a1_1=some (r1,r2,r3)) :
  Calls Try.prog 42 #[.agg #[.slice A0_0 l0_0.length c0_0,.int .i64 a0_1],.agg #[.string a1_0,.int .i64 a1_1]] w fun e w' => ∃ v0_ : Value,e = .returned (.tuple #[.agg #[v0_,.int .i64 r2],.int .i64 r3])∧Kd.V k67 67 w' w.heap.size (fun k_=>(P0_0_ k_∨w.heap.size≤k_)) v0_ r1∧Below w.heap.size w w':=by
 have hu35:=Try.underlying35;have hu51:=Try.underlying51;have mixed : Try.prog.follows Departure.mixedOrders=true:=by rfl
 have late : Try.prog.follows Departure.lateStores=true:=by rfl
 unfold Fk.f at h;obtain ⟨pl,hK,h⟩:=zT.mp h
 by_cases hK0 : 0≤pl
 case neg=>rw [if_neg hK0] at h;cases h
 rw [if_pos hK0] at h
 by_cases hK1 : pl<(l0_0.length : Int)
 case neg=>rw [if_neg hK1] at h;cases h
 rw [if_pos hK1] at h;obtain ⟨l,hl⟩ : ∃ l,l=(rd_T67 l0_0 pl).f1:=⟨_,rfl⟩;rw [← hl] at h
 by_cases hlm : l0_0.length≤4611686018427387904∧l.length≤1000000
 case neg=>rw [if_neg hlm] at h;cases h
 rw [if_pos hlm] at h;obtain ⟨-,hc0_0,hF0⟩:=Kd.V_at hs0_0;obtain ⟨ad,Al,cl,rfl,hxl,hlc,hFl⟩:=Fk.at_F hF0 pl hK0 hK1;rw [← hl] at hxl hlc hFl;have HF0:=zh hF0;have HFl:=zh hFl;have HXL:=zh hxl;have HLC:=zh hlc;have HLM:=zh hlm;have HL:=zh hl;obtain ⟨V,hV⟩ : ∃ V,V=((w.alloc (.cells #[.slice (some ad) l0_0.length c0_0,.int .i64 a0_1] 35)).alloc (.cells #[.string a1_0,.int .i64 a1_1] 51)).alloc (.cells #[.slice none 0 0,.int .i64 0] 35):=⟨_,rfl⟩;obtain ⟨h0,h1,h2,hBV⟩:=Fk.three w (.cells #[.slice (some ad) l0_0.length c0_0,.int .i64 a0_1] 35) (.cells #[.string a1_0,.int .i64 a1_1] 51) (.cells #[.slice none 0 0,.int .i64 0] 35);rw [← hV] at h0 h1 h2 hBV;obtain ⟨g0,hg0⟩ : ∃ g,g=w.heap.size:=⟨_,rfl⟩;rw [← hg0] at h0 h1 h2;obtain ⟨g1,hg1⟩ : ∃ g,g=g0+1:=⟨_,rfl⟩;rw [← hg1] at h1 h2;obtain ⟨g2,hg2⟩ : ∃ g,g=g1+1:=⟨_,rfl⟩;rw [← hg2] at h2;have hb0 : w.heap.size≤g0:=Nat.le_of_eq hg0.symm;have hb1 : w.heap.size≤g1:=by rw [hg1,hg0];exact Nat.le_add_right _ _
 have hb2 : w.heap.size≤g2:=by rw [hg2,hg1,hg0,Nat.add_assoc];exact Nat.le_add_right _ _
 have n02 : g0≠g2:=by omega
 have n10 : g1≠g0:=by omega
 have HB0:=zh hBV;have H0_0:=zh h0;have H1_0:=zh h1;have H2_0:=zh h2;have GB0:=zh hb0;have GB1:=zh hb1;have GB2:=zh hb2;have N02:=zh n02;have N10:=zh n10;have k0:=(zz h0 0).trans (show _=some (.slice (some ad) l0_0.length c0_0) from rfl);have k1:=(zz h0 1).trans (show _=some (.int .i64 a0_1) from rfl);have k2:=(zz h1 0).trans (show _=some (.string a1_0) from rfl);have k3:=(zz h1 1).trans (show _=some (.int .i64 a1_1) from rfl);clear h0 h1 h2 hBV hF0 hFl hxl hlc hlm hb0 hb1 hb2 n02 n10 hs0_0
 go_enter Try.func42,Try.ntmps42
 go_wp2_with fail
 rw [← hV];simp only [← hg0];simp only [← hg1];simp only [← hg2];clear hV hg0 hg1 hg2
 go_at_call 53
 refine (F8.calls k (some ad) c0_0 l0_0 a0_1 a1_0 a1_1 pl V (Kd.F_now (Kd.F_below HF0.out HB0.out)) hc0_0 hK).mono ?_;rintro e w1 ⟨rfl,hb_⟩;have HB1:=zh (zC HB0.out hb_);have H0_1:=zh (zD H0_0.out hb_);have H1_1:=zh (zD H1_0.out hb_);have H2_1:=zh (zD H2_0.out hb_);clear k0 k1 k2 k3 hb_ hK HB0 H0_0 H1_0 H2_0;have k0:=(zz H0_1.out 0).trans (show _=some (.slice (some ad) l0_0.length c0_0) from rfl);have kx:=(HB1.out.cell (zl w _ HXL.out)).trans HXL.out;have hp0:=eq_true hK0;have hp1:=eq_true hK1;clear hl
 go_wp2_with fail
 obtain ⟨res,hres⟩ : ∃ res,res=Fk.at l a1_0 a1_1 0:=⟨_,rfl⟩;rw [← hres] at h;have HH:=zh h;have HR0:=zh hres.symm;clear k0 kx h hres
 go_loopg [8] l.length (fun kq v8 w' => ∃ (i : Nat),v8 = .int .i64 (i : Int)∧Aside0 (kq+i=l.length)∧Aside0 (Fk.at (l.drop i) a1_0 a1_1 i=res)∧Aside0 (w'.heap[g0]? = some (.cells #[.slice (some ad) l0_0.length c0_0,.int .i64 a0_1] 35 (0,0)))∧Aside0 (w'.heap[g1]? = some (.cells #[.string a1_0,.int .i64 a1_1] 51 (0,0)))∧Aside0 (w'.heap[g2]? = some (.cells #[.slice none 0 0,.int .i64 0] 35 (0,0)))∧Aside0 (Below w.heap.size w w'))
 case atStart=>exact ⟨0,rfl,⟨jD⟩,⟨by rw [List.drop_zero];exact HR0.out⟩,H0_1,H1_1,H2_1,HB1⟩
 case round =>
  clear H0_1 H1_1 H2_1 HB1 HR0;obtain ⟨i,rfl,HI,HA,H0_2,H1_2,H2_2,HB2⟩:=hrel
  by_cases hil : i<l.length
  ·
   have c3 : decide ((i : Int)<(l.length : Int))=true:=decide_eq_true (Int.ofNat_lt.2 hil)
   have hi0 : (0≤(i : Int))=True:=eq_true (Int.natCast_nonneg i);have hi1 : ((i : Int)<(l.length : Int))=True:=eq_true (Int.ofNat_lt.2 hil);have hwi:=Fk.w_next i (Nat.le_trans (Nat.le_of_lt hil) (Nat.le_trans HLM.out.2 jB));have hwi2 : IntKind.i64.wrap ((i : Int)+1)=((i+1 : Nat) : Int):=(zG _).trans hwi;obtain ⟨kq,rfl⟩ : ∃ q,gk=q+1:=⟨gk - 1,jAI⟩;obtain ⟨ae,hAe,hx0_,hx1_⟩:=at_T51 (Kd.F_now HFl.out) (i : Int) (Int.natCast_nonneg _) (Int.ofNat_lt.2 hil)
   cases hAe
   rw [Int.toNat_natCast] at hx0_ hx1_;have hx0:=(HB2.out.cell (zl w _ hx0_)).trans hx0_;have hx1:=(HB2.out.cell (zl w _ hx1_)).trans hx1_;have hA:=HA.out;rw [List.drop_eq_getElem_cons hil] at hA;simp only [Fk.at] at hA
   have er : l[i]=rd_T51 l (i : Int):=by
    unfold rd_T51;rw [List.getD_eq_getElem?_getD,Int.toNat_natCast,List.getElem?_eq_getElem hil];rfl
   rw [er] at hA;have HA2:=zh hA;clear hA er HA hx0_ hx1_;have k2:=(zz H1_2.out 0).trans (show _=some (.string a1_0) from rfl);have k3:=(zz H1_2.out 1).trans (show _=some (.int .i64 a1_1) from rfl)
   go_wp2_with fail
   have HB3:=zh (zc HB2.out);have H0_3:=zh (zf H0_2.out);have H1_3:=zh (zf H1_2.out);have H2_3:=zh (zf H2_2.out);refine start_ (n:=6) (S:=fun w' => w'.cell? (ae.add (i*2))=some (.string (rd_T51 l (i : Int)).f0)∧w'.cell? ⟨(ae.add (i*2)).block,(ae.add (i*2)).off+1,none⟩=some (.int .i64 (rd_T51 l (i : Int)).f1)∧w'.cell? ⟨g1,0,none⟩=some (.string a1_0)∧w'.cell? ⟨g1,1,none⟩=some (.int .i64 a1_1)) (ds:=[]) (bm_ 0 6) jA rfl rfl ⟨hx0,hx1,k2,k3⟩ (fun hHeld=>?_);generalize wr.drew=w3 at HB3 H0_3 H1_3 H2_3 hHeld ⊢;clear hx0 hx1 k2 k3 HB2 H0_2 H1_2 H2_2;refine pure_ (i:=0) (N:=some 24) (v:=?_) (a':=?_) (bm_ 1 6) rfl rfl jA (fun _ _ _ h=>h) (Or.inl ⟨by rfl,?_⟩) ?_ ?_;rotate_left;exact jb;rotate_left;exact jc
   refine pure_ (i:=1) (N:=some 25) (v:=?_) (a':=?_) (bm_ 2 6) rfl rfl jA (fun _ _ _ h=>h) (Or.inl ⟨by rfl,?_⟩) ?_ ?_;rotate_left;exact jb;rotate_left;exact jc
   refine pure_ (i:=2) (N:=some 26) (v:=?_) (a':=?_) (bm_ 3 6) rfl rfl jA (fun _ _ _ h=>h) (Or.inl ⟨by rfl,?_⟩) ?_ ?_;rotate_left;exact jb;rotate_left;exact jc
   refine take_ (i:=3) (N:=some 27) (v:=?_) (a':=?_) (bm_ 4 6) rfl rfl jA (fun _ _ _ h=>h) (Or.inl ⟨by rfl,?_⟩) hHeld ?_ ?_;rotate_left
   ·
    rintro w' ⟨s0,s1,s2,s3⟩
    go_simp
    with_reducible rfl
   rotate_left
   exact jc
   refine take_ (i:=4) (N:=some 28) (v:=?_) (a':=?_) (bm_ 5 6) rfl rfl jA (fun _ _ _ h=>h) (Or.inl ⟨by rfl,?_⟩) hHeld ?_ ?_;rotate_left
   ·
    rintro w' ⟨s0,s1,s2,s3⟩
    go_simp
    with_reducible rfl
   rotate_left
   exact jc
   refine pure_ (i:=5) (N:=some 29) (v:=?_) (a':=?_) (bm_ 6 6) rfl rfl jA (fun _ _ _ h=>h) (Or.inl ⟨by rfl,?_⟩) ?_ ?_;rotate_left;exact jb;rotate_left;exact jc
   refine done_ jA ?_;obtain ⟨bA,hbA⟩ : ∃ b,b=(!((rd_T51 l (i : Int)).f0.toList == a1_0.toList) || (!((rd_T51 l (i : Int)).f1 == a1_1))):=⟨_,rfl⟩;rw [← hbA];have hA3:=HA2.out;rw [← hbA] at hA3;clear hbA HA2
   cases bA with
   | true =>
    have HA3 : Fk.at (l.drop (i+1)) a1_0 a1_1 (i+1)=res:=hA3;clear hA3
    go_wp2_with fail
    go_roundg kq
    case measure=>exact Nat.lt_succ_self _
    case rel=>exact ⟨i+1,by first|rfl|rw [hwi],⟨jAI⟩,⟨HA3⟩,H0_3,H1_3,H2_3,HB3⟩
   | false =>
    replace hA3 : some i=res:=hA3;subst hA3;have h:=HH.out;simp only at h;clear HH;obtain ⟨⟨T1,n1⟩,hT,h⟩:=zT.mp h;simp only at h
    by_cases hTb : pl<(T1.length : Int)∧T1.length≤1000000
    case neg=>rw [if_neg hTb] at h;cases h
    rw [if_pos hTb] at h;obtain ⟨hT1,hT2⟩:=hTb;have HH:=zh h;clear h;have k0:=(zz H0_3.out 0).trans (show _=some (.slice (some ad) l0_0.length c0_0) from rfl);have k1:=(zz H0_3.out 1).trans (show _=some (.int .i64 a0_1) from rfl);have f0:=zA H0_3.out 0;have f1:=zA H0_3.out 1
    go_wp2_with fail
    go_at_call 43
    refine (F3.calls k (some ad) c0_0 l0_0 a0_1 T1 n1 w3 (Kd.F_now (Kd.F_below HF0.out HB3.out)) hc0_0 hT).mono ?_;rintro e w4 ⟨v4,rfl,hS4,hb_⟩;have HB4:=zh (zC HB3.out hb_);have H0_4:=zh (zD H0_3.out hb_);have H2_4:=zh (zD H2_3.out hb_);have L0 : Aside0 (g0<w3.heap.size):=⟨yi H0_3.out⟩;have L2 : Aside0 (g2<w3.heap.size):=⟨yi H2_3.out⟩;obtain ⟨g,cg,rfl,gb,gl,cg_,hg_⟩:=Kd.S_form hS4 jD;have HN4:=zh (Kd.N_mono (Kd.S_N (Kd.S_lower (Kd.S_bound hS4) HB3.out.size)) (ok':=fun k_=>w3.heap.size≤k_) (fun _ hk=>hk.2.1));have GG:=zh gb;clear k0 k1 f0 f1 hS4 hb_ hT HB3 H0_3 H1_3 H2_3 hg_;have k0:=zz H0_4.out 0;have k1:=zz H0_4.out 1;have f0:=zA H0_4.out 0;have f1:=zA H0_4.out 1
    go_wp2_with fail
    have HB5 : Aside0 (Below w.heap.size w ((w4.setCell ⟨g0,0,none⟩ (.slice (some ⟨g,0,none⟩) T1.length cg)).setCell ⟨g0,1,none⟩ (.int .i64 n1))):=⟨zd (zd HB4.out GB0.out) GB0.out⟩;have H0_5 : Aside0 (((w4.setCell ⟨g0,0,none⟩ (.slice (some ⟨g,0,none⟩) T1.length cg)).setCell ⟨g0,1,none⟩ (.int .i64 n1)).heap[g0]? = some (.cells #[.slice (some ⟨g,0,none⟩) T1.length cg,.int .i64 n1] 35 (0,0))):=⟨blk_set (blk_set H0_4.out 0 _) 1 _⟩;have H2_5 : Aside0 (((w4.setCell ⟨g0,0,none⟩ (.slice (some ⟨g,0,none⟩) T1.length cg)).setCell ⟨g0,1,none⟩ (.int .i64 n1)).heap[g2]? = some (.cells #[.slice none 0 0,.int .i64 0] 35 (0,0))):=⟨(Below.heap_setCell _ ⟨g0,1,none⟩ _ g2 (Ne.symm N02.out)).trans ((Below.heap_setCell _ ⟨g0,0,none⟩ _ g2 (Ne.symm N02.out)).trans H2_4.out)⟩;have HN5 : Aside0 (Kd.N k67 67 ((w4.setCell ⟨g0,0,none⟩ (.slice (some ⟨g,0,none⟩) T1.length cg)).setCell ⟨g0,1,none⟩ (.int .i64 n1)) w.heap.size (fun k_=>w3.heap.size≤k_) (.slice (some ⟨g,0,none⟩) T1.length cg) T1):=⟨Kd.N_far (p:=⟨g0,1,none⟩) (Kd.N_far (p:=⟨g0,0,none⟩) HN4.out (fun _ hk e9=>by rw [e9] at hk;exact Nat.lt_irrefl _ (Nat.lt_of_lt_of_le L0.out hk)) _) (fun _ hk e9=>by rw [e9] at hk;exact Nat.lt_irrefl _ (Nat.lt_of_lt_of_le L0.out hk)) _⟩;have L35 : Aside0 (w3.heap.size≤((w4.setCell ⟨g0,0,none⟩ (.slice (some ⟨g,0,none⟩) T1.length cg)).setCell ⟨g0,1,none⟩ (.int .i64 n1)).heap.size):=⟨by simp;exact Nat.le_trans gb (Nat.le_of_lt gl)⟩;have GL5 : Aside0 (g<((w4.setCell ⟨g0,0,none⟩ (.slice (some ⟨g,0,none⟩) T1.length cg)).setCell ⟨g0,1,none⟩ (.int .i64 n1)).heap.size):=⟨by simpa using gl⟩;clear k0 k1 f0 f1 HB4 H0_4 H2_4 HN4 gb gl;generalize (w4.setCell ⟨g0,0,none⟩ (.slice (some ⟨g,0,none⟩) T1.length cg)).setCell ⟨g0,1,none⟩ (.int .i64 n1)=w5 at *;have HB6:=zh (zc HB5.out);have H0_6:=zh (zf H0_5.out);have H2_6:=zh (zf H2_5.out);have HN6:=zh (Kd.N_drew HN5.out);have L36 : Aside0 (w3.heap.size≤w5.drew.heap.size):=L35;have GL6 : Aside0 (g<w5.drew.heap.size):=GL5;have hTp1:=eq_true hT1;have hKp0:=eq_true hK0;have hi4 : (0 : Int)≤(i : Int):=Int.natCast_nonneg i;have hi5 : (i : Int)≤(l.length : Int):=Int.ofNat_le.2 (Nat.le_of_lt hil);obtain ⟨j,hj⟩ : ∃ j : Nat,j=i+1:=⟨_,rfl⟩;have hjw : IntKind.i64.wrap ((i : Int)+1)=(j : Int):=by rw [hj];exact hwi2
    have hjl : j≤l.length:=by rw [hj];exact hil
    have hi6 : (0 : Int)≤(j : Int):=Int.natCast_nonneg _;have hi7 : (j : Int)≤(l.length : Int):=Int.ofNat_le.2 hjl;have HJ:=zh hj;have HJL:=zh hjl;clear hwi hwi2 hj hjl;obtain ⟨i0_,hi0_,_,hsz_,_⟩:=info_parts info51;have hcut1:=cut_to (P:=Try.prog) 29 51 .i64 Try.underlying29 hi0_ (some ae) l.length cl (i : Int) hi4 hi5 HLC.out;have hcut2:=cut_from (P:=Try.prog) 29 51 .i64 Try.underlying29 hi0_ 2 hsz_ (some ae) l.length cl (j : Int) hi6 hi7;rw [Int.toNat_natCast] at hcut1 hcut2;have hC1:=Kd.F_imp HFl.out (fun _ hC=>Kd.C_take (m:=i) hC (Nat.le_of_lt hil));have hC2:=Kd.F_imp HFl.out (fun _ hC=>Kd.C_drop (c:=cl) (m:=j) hC HJL.out HLC.out);rw [zx,Nat.min_eq_left (Nat.le_of_lt hil)] at hC1;rw [zw] at hC2;obtain ⟨A2,hA2⟩ : ∃ A2,A2=(if cl=j then (some ae) else (some ae : Option Addr).map (·.add (j*2))):=⟨_,rfl⟩;rw [← hA2] at hcut2;replace hC2 : Kd.F k51 w (fun k_=>P0_0_ k_) A2 (l.length - j) (l.drop j):=by rw [hA2];exact hC2
    have HC1:=zh hC1;have HC2:=zh hC2;have HT1:=zh hT1;have HT2:=zh hT2;clear hC1 hC2 hA2 hi0_ hsz_ hT1 hT2
    go_wp2_with fail
    refine start_ (n:=16) (S:=fun w' => w'.cell? ⟨g0,0,none⟩=some (.slice (some ⟨g,0,none⟩) T1.length cg)) (ds:=[15]) (bm_ 0 16) jA rfl rfl ((zz H0_6.out 0).trans rfl) (fun hHeld=>?_);generalize w5.drew=w7 at HB6 H0_6 H2_6 HN6 L36 GL6 hHeld ⊢;have HB7:=HB6;have H0_7:=H0_6;have H2_7:=H2_6;have HN7:=HN6;clear HB5 H0_5 H2_5 HN5 L35 GL5 HB6 H0_6 H2_6 HN6;refine pure_ (i:=0) (N:=some 32) (v:=?_) (a':=?_) (bm_ 1 16) rfl rfl jA (fun _ _ _ h=>h) (Or.inl ⟨by rfl,?_⟩) ?_ ?_;rotate_left;exact jb;rotate_left;exact jc
    refine pure_ (i:=2) (N:=some 34) (v:=?_) (a':=?_) #[true,false,true,false,false,false,false,false,false,false,false,false,false,false,false,false] rfl rfl jA (fun _ _ _ h=>h) (Or.inl ⟨by rfl,?_⟩) ?_ ?_;rotate_left;exact jb;rotate_left;exact jc
    refine pure_ (i:=4) (N:=some 36) (v:=?_) (a':=?_) #[true,false,true,false,true,false,false,false,false,false,false,false,false,false,false,false] rfl rfl jA (fun _ _ _ h=>h) (Or.inl ⟨by rfl,?_⟩) ?_ ?_;rotate_left;exact jb;rotate_left;exact jc
    refine pure_ (i:=5) (N:=some 37) (v:=?_) (a':=?_) #[true,false,true,false,true,true,false,false,false,false,false,false,false,false,false,false] rfl rfl jA (fun _ _ _ h=>h) (Or.inl ⟨by rfl,?_⟩) ?_ ?_;rotate_left;exact jb;rotate_left;exact jc
    refine pure_ (i:=6) (N:=some 38) (v:=?_) (a':=?_) #[true,false,true,false,true,true,true,false,false,false,false,false,false,false,false,false] rfl rfl jA (fun _ _ _ h=>h) (Or.inl ⟨by rfl,?_⟩) ?_ ?_;rotate_left;exact jb;rotate_left;exact jc
    refine pure_ (i:=8) (N:=some 40) (v:=?_) (a':=?_) #[true,false,true,false,true,true,true,false,true,false,false,false,false,false,false,false] rfl rfl jA (fun _ _ _ h=>h) (Or.inl ⟨by rfl,?_⟩) ?_ ?_;rotate_left;exact jb;rotate_left;exact jc
    refine pure_ (i:=9) (N:=some 41) (v:=?_) (a':=?_) #[true,false,true,false,true,true,true,false,true,true,false,false,false,false,false,false] rfl rfl jA (fun _ _ _ h=>h) (Or.inl ⟨by rfl,?_⟩) ?_ ?_;rotate_left;exact jb;rotate_left;exact jc
    refine pure_ (i:=10) (N:=some 42) (v:=?_) (a':=?_) #[true,false,true,false,true,true,true,false,true,true,true,false,false,false,false,false] rfl rfl jA (fun _ _ _ h=>h) (Or.inl ⟨by rfl,?_⟩) ?_ ?_;rotate_left;exact jb;rotate_left;exact jc
    refine pure_ (i:=11) (N:=some 43) (v:=?_) (a':=?_) #[true,false,true,false,true,true,true,false,true,true,true,true,false,false,false,false] rfl rfl jA (fun _ _ _ h=>h) (Or.inl ⟨by rfl,?_⟩) ?_ ?_;rotate_left;exact jb;rotate_left;exact jc
    refine take_ (i:=1) (N:=some 33) (v:=?_) (a':=?_) #[true,true,true,false,true,true,true,false,true,true,true,true,false,false,false,false] rfl rfl jA (fun _ _ _ h=>h) (Or.inl ⟨by rfl,?_⟩) hHeld ?_ ?_;rotate_left
    ·
     intro w' s0
     go_simp
     with_reducible rfl
    rotate_left
    exact jc
    refine one_ (i:=3) (N:=some 35) #[true,true,true,true,true,true,true,false,true,true,true,true,false,false,false,false] rfl rfl jA jB (fun K hK=>?_);refine Kd.R_lit_step k51 _ 51 ?hg (N:=35) ?hd (xs:=([] : List (S51))) (inner:=[]) (ok:=fun _=>True) (okp:=fun _=>True) ?hr ?hp (fun _ hk=>hk) trivial (Below.refl _ _) (ye _) (by simp) ?_;(case hd=>rfl);(case hg=>rfl);(case hr=>go_simp <;> rfl);(case hp=>exact (Reps.none _ _));intro va wa hRa hba hga_ hna_;clear hga_ hna_;refine hK.out _ _ ((zz (zD H0_7.out hba) 0).trans rfl) (fun hHeld=>?_);clear hK K;refine norm_ (a':=?_) ?_ ?_;rotate_left
    ·
     show Act.put _ (some 35) _=_
     simp only [Act.put,zi,zj,zk,zG,zH]
     rfl
    refine one_ (i:=7) (N:=some 39) (bm_ 12 16) rfl rfl jA jB (fun K hK=>?_);refine Kd.R_append_rows_step k51 (w0:=w7) w7.heap.size (by rfl) (.tmp 35) (.tmp 38) 29 51 (.agg #[(.string ⟨#[]⟩),(.int .i64 0)]) 24 rfl Try.underlying29 info51 rfl jB jB va ([] : List (S51)) (l.take i) (some ae) i cl (fun _=>True) (fun _=>False) (by rfl) (by rfl) hRa (Kd.F_now (Kd.F_below HC1.out (zC HB7.out hba))) (fun x cs h9=>Fk.K_M x cs h9) (fun _ h9=>h9.elim) (fun _ _=>trivial) hba hba.size (by have:=HLM.out.2;simp;omega) ?_;intro vb wb hRb hbb hg_ hat_;clear hg_ hat_;refine hK.out _ _ ((zz (zD H0_7.out hbb) 0).trans rfl) (fun hHeld=>?_);clear hK K;refine norm_ (a':=?_) ?_ ?_;rotate_left
    ·
     show Act.put _ (some 39) _=_
     simp only [Act.put,zi,zj,zk,zG,zH]
     rfl
    refine one_ (i:=12) (N:=some 44) (bm_ 13 16) rfl rfl jA jB (fun K hK=>?_);refine Kd.R_append_rows_step k51 (w0:=w7) w7.heap.size (by rfl) (.tmp 39) (.tmp 43) 29 51 (.agg #[(.string ⟨#[]⟩),(.int .i64 0)]) 24 rfl Try.underlying29 info51 rfl jB jB vb ([]++l.take i) (l.drop j) A2 (l.length - j) (cl - j) (fun _=>True) (fun _=>False) (by rfl) (by rfl) hRb (Kd.F_now (Kd.F_below HC2.out (zC HB7.out hbb))) (fun x cs h9=>Fk.K_M x cs h9) (fun _ h9=>h9.elim) (fun _ _=>trivial) hbb hbb.size (by have:=HLM.out.2;simp;omega) ?_;intro vc wc hRc hbc hg_ hat_;clear hg_ hat_;obtain ⟨X,hX⟩ : ∃ X : List (S51),X=([]++l.take i)++l.drop j:=⟨_,rfl⟩;rw [← hX] at hRc;have HX:=zh hX;clear hX;obtain ⟨Ac,cc,rfl⟩:=yk hRc;have hce:=(zz (zD H0_7.out hbc) 0).trans (show _=some (.slice (some ⟨g,0,none⟩) T1.length cg) from rfl);obtain ⟨ce,hcl_,hFK_,hcc_,hfr_⟩:=Kd.N_elem (Kd.N_below HN7.out hbc) z67 pl hK0 HT1.out;obtain ⟨A9,c9,rfl,-,-⟩:=k67_openF hFK_;have q9 : wc.cell? ⟨g,pl.toNat*2+1,none⟩=some (.slice A9 (rd_T67 T1 pl).f1.length c9):=hcc_ 1 _ rfl;have f9 : wc.frozen? ⟨g,pl.toNat*2+1,none⟩=false:=hfr_ 1;refine hK.out _ _ (hce) (fun hHeld=>?_);clear hK K;refine norm_ (a':=?_) ?_ ?_;rotate_left
    ·
     show Act.put _ (some 44) _=_
     simp only [Act.put,zi,zj,zk,zG,zH]
     rfl
    refine pure_ (i:=13) (N:=some 45) (v:=?_) (a':=?_) (bm_ 14 16) rfl rfl jA (fun _ _ _ h=>h) (Or.inl ⟨by rfl,?_⟩) ?_ ?_;rotate_left;exact jb;rotate_left;exact jc
    refine pure_ (i:=14) (N:=some 46) (v:=?_) (a':=?_) (bm_ 15 16) rfl rfl jA (fun _ _ _ h=>h) (Or.inl ⟨by rfl,?_⟩) ?_ ?_;rotate_left;exact jb;rotate_left;exact jc
    refine last_ (i:=15) (N:=none) (bm_ 16 16) rfl rfl jA jB (fun K hK=>?_);refine skip_ (w1:=?_) (by rfl) rfl ?_ ?_;rotate_left
    ·
     go_simp
     rfl
    refine hK.out _ _ ?_;clear hK K;refine done_ jA ?_;have hFc : Kd.F k51 wc (fun k_=>w7.heap.size≤k_) Ac X.length X:=Kd.F_mono (Kd.R_F (Kd.R_bound hRc)) (fun _ hk=>hk.2.1)
    obtain ⟨hN8,hG8⟩ : Kd.N k67 67 (wc.setCell ⟨g,pl.toNat*2+1,none⟩ (.slice Ac X.length cc)) w.heap.size (fun k_=>w3.heap.size≤k_) (.slice (some ⟨g,0,none⟩) T1.length cg) (T1.set pl.toNat (⟨(rd_T67 T1 pl).f0,X⟩ : S67))∧wc.grownBy (wc.setCell ⟨g,pl.toNat*2+1,none⟩ (.slice Ac X.length cc)) (some g) :=
     Kd.N_seg (Kd.N_below HN7.out hbc) pl hK0 HT1.out (c:=[.int .i64 (rd_T67 T1 pl).f0,.slice A9 (rd_T67 T1 pl).f1.length c9]) (seg:=[.slice Ac X.length cc]) (j:=1) rfl hcc_ (show 1+1≤2 from by decide) (x':=(⟨(rd_T67 T1 pl).f0,X⟩ : S67)) (okp:=fun k_=>w7.heap.size≤k_) (k67_mkF wc _ (⟨(rd_T67 T1 pl).f0,X⟩ : S67) (yh hRc).2.1 hFc) (fun k_ hk=>⟨Nat.le_trans L36.out hk,fun e9=>by rw [e9] at hk;exact Nat.lt_irrefl _ (Nat.lt_of_lt_of_le GL6.out hk)⟩)
    have hgw : w.heap.size≤g:=Nat.le_trans GB0.out (Nat.le_trans (Nat.le_of_lt L0.out) GG.out);have g0g : g0≠g:=fun e9=>Nat.lt_irrefl _ (Nat.lt_of_lt_of_le L0.out (e9 ▸ GG.out));have g2g : g2≠g:=fun e9=>Nat.lt_irrefl _ (Nat.lt_of_lt_of_le L2.out (e9 ▸ GG.out));have HN8:=zh hN8;have HB8 : Aside0 (Below w.heap.size w (wc.setCell ⟨g,pl.toNat*2+1,none⟩ (.slice Ac X.length cc))):=⟨zd (zC HB7.out hbc) hgw⟩;have H0_8 : Aside0 ((wc.setCell ⟨g,pl.toNat*2+1,none⟩ (.slice Ac X.length cc)).heap[g0]? = some (.cells #[.slice (some ⟨g,0,none⟩) T1.length cg,.int .i64 n1] 35 (0,0))):=⟨(Below.heap_setCell _ ⟨g,_,none⟩ _ g0 g0g).trans (zD H0_7.out hbc)⟩;have H2_8 : Aside0 ((wc.setCell ⟨g,pl.toNat*2+1,none⟩ (.slice Ac X.length cc)).heap[g2]? = some (.cells #[.slice none 0 0,.int .i64 0] 35 (0,0))):=⟨(Below.heap_setCell _ ⟨g,_,none⟩ _ g2 g2g).trans (zD H2_7.out hbc)⟩;have L38 : Aside0 (w3.heap.size≤(wc.setCell ⟨g,pl.toNat*2+1,none⟩ (.slice Ac X.length cc)).heap.size):=⟨by simp;exact Nat.le_trans L36.out hbc.size⟩;clear hcut1 hcut2 hN8 hG8 hFc hRa hRb hRc hba hbb hbc hce hcl_ hFK_ hcc_ hfr_ q9 f9 HB7 H0_7 H2_7 HN7 g0g g2g hgw;generalize wc.setCell ⟨g,pl.toNat*2+1,none⟩ (.slice Ac X.length cc)=w8 at *;have h:=HH.out;have hXe : l.take i++l.drop (i+1)=X:=by rw [HX.out,List.nil_append,HJ.out]
    have q0:=(zz H0_8.out 0).trans (show _=some (.slice (some ⟨g,0,none⟩) T1.length cg) from rfl)
    by_cases hl1 : l.length=1∧1<T1.length
    ·
     rw [if_pos hl1,hXe] at h
     simp only [Option.some.injEq,Prod.mk.injEq] at h;obtain ⟨hr1,rfl,rfl⟩:=h;have HR1:=zh hr1;clear hr1;obtain ⟨hl1,hl2⟩:=hl1;have c5 : ((l.length : Int) == 1)=true:=ya.mpr jD;have c5n : (l.length == 1)=true:=ya.mpr hl1;have c6 : decide ((1 : Int)<(T1.length : Int))=true:=decide_eq_true jD;have c6n : decide (1<T1.length)=true:=decide_eq_true hl2;have HL1:=zh hl1;clear hl1 hl2 hXe
     go_wp2_with fail
     clear q0;obtain ⟨Y,hY⟩ : ∃ Y,Y=T1.set pl.toNat (⟨(rd_T67 T1 pl).f0,X⟩ : S67):=⟨_,rfl⟩;have hYl : Y.length=T1.length:=by rw [hY,List.length_set]
     have HN9:=zh (Kd.N_drew HN8.out);rw [← hY] at HN9;have HYL:=zh hYl;have HB9:=zh (zc HB8.out);have H0_9:=zh (zf H0_8.out);have H2_9:=zh (zf H2_8.out);have L39 : Aside0 (w3.heap.size≤w8.drew.heap.size):=L38;obtain ⟨Kn,rfl⟩ : ∃ Kn : Nat,pl=(Kn : Int):=⟨pl.toNat,(Int.toNat_of_nonneg hK0).symm⟩;have hKn : Kn<T1.length:=Int.ofNat_lt.1 HT1.out;have hKw:=Fk.w_next Kn (Nat.le_trans (Nat.le_of_lt hKn) (Nat.le_trans HT2.out jB));have hKw2 : IntKind.i64.wrap ((Kn : Int)+1)=((Kn+1 : Nat) : Int):=(zG _).trans hKw;have hi4 : (0 : Int)≤(Kn : Int):=Int.natCast_nonneg _;have hi5 : (Kn : Int)≤(T1.length : Int):=Int.ofNat_le.2 (Nat.le_of_lt hKn);obtain ⟨j2,hj2⟩ : ∃ j : Nat,j=Kn+1:=⟨_,rfl⟩;have hjw2 : IntKind.i64.wrap ((Kn : Int)+1)=(j2 : Int):=by rw [hj2];exact hKw2
     have hjl2 : j2≤T1.length:=by rw [hj2];exact hKn
     have hi6 : (0 : Int)≤(j2 : Int):=Int.natCast_nonneg _;have hi7 : (j2 : Int)≤(T1.length : Int):=Int.ofNat_le.2 hjl2;obtain ⟨i0_,hi0_,_,hsz_,_⟩:=info_parts info67;have hcgl : T1.length≤cg:=(Kd.N_reads' HN9.out).2.1;have hcut1:=cut_to (P:=Try.prog) 33 67 .i64 Try.underlying33 hi0_ (some ⟨g,0,none⟩) T1.length cg (Kn : Int) hi4 hi5 hcgl;have hcut2:=cut_from (P:=Try.prog) 33 67 .i64 Try.underlying33 hi0_ 2 hsz_ (some ⟨g,0,none⟩) T1.length cg (j2 : Int) hi6 hi7;rw [Int.toNat_natCast] at hcut1 hcut2;have hFY:=Kd.F_bound (Kd.N_F HN9.out);rw [← hYl] at hFY;have hC1:=Kd.F_imp hFY (fun _ hC=>Kd.C_take (m:=Kn) hC (by rw [hYl];exact Nat.le_of_lt hKn));have hC2:=Kd.F_imp hFY (fun _ hC=>Kd.C_drop (c:=cg) (m:=j2) hC jAe (by rw [hYl];exact hcgl));rw [zx,Nat.min_eq_left (by rw [hYl];exact Nat.le_of_lt hKn)] at hC1;rw [zw,hYl] at hC2;obtain ⟨A2,hA2⟩ : ∃ A2,A2=(if cg=j2 then (some (⟨g,0,none⟩ : Addr)) else (some (⟨g,0,none⟩ : Addr)).map (·.add (j2*2))):=⟨_,rfl⟩;rw [← hA2] at hcut2;replace hC2 : Kd.F k67 w8.drew (fun k_=>w3.heap.size≤k_∧k_<w8.drew.heap.size) A2 (T1.length - j2) (Y.drop j2):=by rw [hA2];exact hC2
     have HJ2:=zh hj2;have HYR : Aside0 (Y.take Kn++Y.drop (Kn+1)=r1):=⟨by rw [hY];exact HR1.out⟩;clear HR1;have HC1:=zh hC1;have HC2:=zh hC2;clear hC1 hC2 hA2 hi0_ hsz_ hFY hcgl hY hYl hKw hKw2 hj2 hjl2 HN8 HN9;refine start_ (n:=14) (S:=fun w' => w'.cell? ⟨g0,0,none⟩=some (.slice (some ⟨g,0,none⟩) T1.length cg)) (ds:=[13]) (bm_ 0 14) jA rfl rfl ((zz H0_9.out 0).trans rfl) (fun hHeld=>?_);generalize w8.drew=w9 at HB9 H0_9 H2_9 L39 HC1 HC2 hHeld ⊢;refine pure_ (i:=1) (N:=some 57) (v:=?_) (a':=?_) #[false,true,false,false,false,false,false,false,false,false,false,false,false,false] rfl rfl jA (fun _ _ _ h=>h) (Or.inl ⟨by rfl,?_⟩) ?_ ?_;rotate_left;exact jb;rotate_left;exact jc
     refine pure_ (i:=3) (N:=some 59) (v:=?_) (a':=?_) #[false,true,false,true,false,false,false,false,false,false,false,false,false,false] rfl rfl jA (fun _ _ _ h=>h) (Or.inl ⟨by rfl,?_⟩) ?_ ?_;rotate_left;exact jb;rotate_left;exact jc
     refine pure_ (i:=6) (N:=some 62) (v:=?_) (a':=?_) #[false,true,false,true,false,false,true,false,false,false,false,false,false,false] rfl rfl jA (fun _ _ _ h=>h) (Or.inl ⟨by rfl,?_⟩) ?_ ?_;rotate_left;exact jb;rotate_left;exact jc
     refine pure_ (i:=8) (N:=some 64) (v:=?_) (a':=?_) #[false,true,false,true,false,false,true,false,true,false,false,false,false,false] rfl rfl jA (fun _ _ _ h=>h) (Or.inl ⟨by rfl,?_⟩) ?_ ?_;rotate_left;exact jb;rotate_left;exact jc
     refine pure_ (i:=9) (N:=some 65) (v:=?_) (a':=?_) #[false,true,false,true,false,false,true,false,true,true,false,false,false,false] rfl rfl jA (fun _ _ _ h=>h) (Or.inl ⟨by rfl,?_⟩) ?_ ?_;rotate_left;exact jb;rotate_left;exact jc
     refine take_ (i:=2) (N:=some 58) (v:=?_) (a':=?_) #[false,true,true,true,false,false,true,false,true,true,false,false,false,false] rfl rfl jA (fun _ _ _ h=>h) (Or.inl ⟨by rfl,?_⟩) hHeld ?_ ?_;rotate_left
     ·
      intro w' s0
      go_simp
      with_reducible rfl
     rotate_left
     exact jc
     refine pure_ (i:=4) (N:=some 60) (v:=?_) (a':=?_) #[false,true,true,true,true,false,true,false,true,true,false,false,false,false] rfl rfl jA (fun _ _ _ h=>h) (Or.inl ⟨by rfl,?_⟩) ?_ ?_;rotate_left;exact jb;rotate_left;exact jc
     refine take_ (i:=7) (N:=some 63) (v:=?_) (a':=?_) #[false,true,true,true,true,false,true,true,true,true,false,false,false,false] rfl rfl jA (fun _ _ _ h=>h) (Or.inl ⟨by rfl,?_⟩) hHeld ?_ ?_;rotate_left
     ·
      intro w' s0
      go_simp
      with_reducible rfl
     rotate_left
     exact jc
     refine pure_ (i:=10) (N:=some 66) (v:=?_) (a':=?_) #[false,true,true,true,true,false,true,true,true,true,true,false,false,false] rfl rfl jA (fun _ _ _ h=>h) (Or.inl ⟨by rfl,?_⟩) ?_ ?_;rotate_left;exact jb;rotate_left;exact jc
     refine one_ (i:=0) (N:=some 56) #[true,true,true,true,true,false,true,true,true,true,true,false,false,false] rfl rfl jA jB (fun K hK=>?_);refine Kd.N_lit_step k67 _ 67 ?hg (N':=56) ?hd (xs:=([] : List (S67))) (inner:=[]) (ok:=fun k_=>w3.heap.size≤k_) (okp:=fun k_=>w3.heap.size≤k_) ?hr ?hp (fun _ hk=>hk) L39.out (Below.refl w9.heap.size w9) (ye _) (by simp) ?_;(case hd=>rfl);(case hg=>rfl);(case hr=>go_simp <;> rfl);(case hp=>exact (Reps.none _ _));intro va wa hNa hba hga_ hna_;clear hga_ hna_;refine hK.out _ _ ((zz (zD H0_9.out hba) 0).trans rfl) (fun hHeld=>?_);clear hK K;refine norm_ (a':=?_) ?_ ?_;rotate_left
     ·
      show Act.put _ (some 56) _=_
      simp only [Act.put,zi,zj,zk,zG,zH]
      rfl
     refine one_ (i:=5) (N:=some 61) (bm_ 11 14) rfl rfl jA jB (fun K hK=>?_);refine Kd.N_append_rows_step k67 (w0:=w9) w9.heap.size (by rfl) (.tmp 56) (.tmp 60) 33 67 (.agg #[(.int .i64 0),(.slice none 0 0)]) 32 rfl Try.underlying33 info67 rfl jB jB va ([] : List (S67)) (Y.take Kn) (some ⟨g,0,none⟩) Kn cg (fun k_=>w3.heap.size≤k_) (fun k_=>w3.heap.size≤k_∧k_<w9.heap.size) (by rfl) (by rfl) hNa (Kd.F_below HC1.out hba) (fun k_ hk=>⟨hk.1,fun e9=>Nat.lt_irrefl _ (Nat.lt_of_lt_of_le hk.2 (Kd.N_base hNa k_ e9.symm))⟩) (fun _ hk=>Nat.le_trans L39.out (Nat.le_trans hba.size hk)) hba hba.size (by have:=HT2.out;have:=HYL.out;simp;omega) ?_;intro vb wb hNb hbb hg_ hat_;clear hg_ hat_;refine hK.out _ _ ((zz (zD H0_9.out hbb) 0).trans rfl) (fun hHeld=>?_);clear hK K;refine norm_ (a':=?_) ?_ ?_;rotate_left
     ·
      show Act.put _ (some 61) _=_
      simp only [Act.put,zi,zj,zk,zG,zH]
      rfl
     refine one_ (i:=11) (N:=some 67) (bm_ 12 14) rfl rfl jA jB (fun K hK=>?_);refine Kd.N_append_rows_step k67 (w0:=w9) w9.heap.size (by rfl) (.tmp 61) (.tmp 66) 33 67 (.agg #[(.int .i64 0),(.slice none 0 0)]) 32 rfl Try.underlying33 info67 rfl jB jB vb ([]++Y.take Kn) (Y.drop j2) A2 (T1.length - j2) (cg - j2) (fun k_=>w3.heap.size≤k_) (fun k_=>w3.heap.size≤k_∧k_<w9.heap.size) (by rfl) (by rfl) hNb (Kd.F_below HC2.out hbb) (fun k_ hk=>⟨hk.1,fun e9=>Nat.lt_irrefl _ (Nat.lt_of_lt_of_le hk.2 (Kd.N_base hNb k_ e9.symm))⟩) (fun _ hk=>Nat.le_trans L39.out (Nat.le_trans hbb.size hk)) hbb hbb.size (by have:=HT2.out;have:=HYL.out;simp;omega) ?_;intro vc wc hNc hbc hg_ hat_;clear hg_ hat_;obtain ⟨Z,hZ⟩ : ∃ Z : List (S67),Z=([]++Y.take Kn)++Y.drop j2:=⟨_,rfl⟩;rw [← hZ] at hNc;have HZ:=zh hZ;clear hZ;obtain ⟨Ac,cc,rfl⟩:=Kd.N_slice hNc;have hce:=(zz (zD H0_9.out hbc) 0).trans (show _=some (.slice (some ⟨g,0,none⟩) T1.length cg) from rfl);have f9:=zA (zD H0_9.out hbc) 0;refine hK.out _ _ (hce) (fun hHeld=>?_);clear hK K;refine norm_ (a':=?_) ?_ ?_;rotate_left
     ·
      show Act.put _ (some 67) _=_
      simp only [Act.put,zi,zj,zk,zG,zH]
      rfl
     refine pure_ (i:=12) (N:=some 68) (v:=?_) (a':=?_) (bm_ 13 14) rfl rfl jA (fun _ _ _ h=>h) (Or.inl ⟨by rfl,?_⟩) ?_ ?_;rotate_left;exact jb;rotate_left;exact jc
     refine last_ (i:=13) (N:=none) (bm_ 14 14) rfl rfl jA jB (fun K hK=>?_);refine skip_ (w1:=?_) (by rfl) rfl ?_ ?_;rotate_left
     ·
      go_simp
      rfl
     refine hK.out _ _ ?_;clear hK K;refine done_ jA ?_;have hZe : Y.take Kn++Y.drop (Kn+1)=Z:=by rw [HZ.out,List.nil_append,HJ2.out]
     obtain rfl : Z=r1:=hZe.symm.trans HYR.out;have H0_10 : Aside0 ((wc.setCell ⟨g0,0,none⟩ (.slice Ac Z.length cc)).heap[g0]? = some (.cells #[.slice Ac Z.length cc,.int .i64 n1] 35 (0,0))):=⟨blk_set (zD H0_9.out hbc) 0 _⟩;have H2_10 : Aside0 ((wc.setCell ⟨g0,0,none⟩ (.slice Ac Z.length cc)).heap[g2]? = some (.cells #[.slice none 0 0,.int .i64 0] 35 (0,0))):=⟨(Below.heap_setCell _ ⟨g0,_,none⟩ _ g2 (Ne.symm N02.out)).trans (zD H2_9.out hbc)⟩;have HB10 : Aside0 (Below w.heap.size w (wc.setCell ⟨g0,0,none⟩ (.slice Ac Z.length cc))):=⟨zd (zC HB9.out hbc) GB0.out⟩;have HV10 : Aside0 (Kd.V k67 67 (wc.setCell ⟨g0,0,none⟩ (.slice Ac Z.length cc)) w.heap.size (fun k_=>w3.heap.size≤k_) (.slice Ac Z.length cc) Z):=⟨Kd.V_far (p:=⟨g0,0,none⟩) (Kd.N_V hNc) (fun _ hk e9=>by rw [e9] at hk;exact Nat.lt_irrefl _ (Nat.lt_of_lt_of_le L0.out hk)) _⟩;have L310 : Aside0 (w3.heap.size≤w3.heap.size):=⟨ye _⟩;clear hcut1 hcut2 hZe hNa hNb hNc hba hbb hbc hce f9 HB9 H0_9 H2_9;generalize wc.setCell ⟨g0,0,none⟩ (.slice Ac Z.length cc)=w10 at *;have k0:=zz H0_10.out 0;have k1:=zz H0_10.out 1;have k2:=zz H2_10.out 0;have k3:=zz H2_10.out 1;have f0:=zA H2_10.out 0;have f1:=zA H2_10.out 1
     go_wp2_with fail
     refine bodyPost_ret (results_ct rfl _ _ g2 35 #[.slice Ac Z.length cc,.int .i64 n1] (0,0) _ rfl (blk_set (blk_set H2_10.out 0 (.slice Ac Z.length cc)) 1 (.int .i64 n1)) hu35 rfl jA) rfl ?_;exact ⟨_,rfl,Kd.V_mono (Kd.V_far (p:=⟨g2,1,none⟩) (Kd.V_far (p:=⟨g2,0,none⟩) HV10.out (fun _ hk e9=>by rw [e9] at hk;exact Nat.lt_irrefl _ (Nat.lt_of_lt_of_le L2.out hk)) _) (fun _ hk e9=>by rw [e9] at hk;exact Nat.lt_irrefl _ (Nat.lt_of_lt_of_le L2.out hk)) _) (fun _ hk => .inr (Nat.le_trans GB0.out (Nat.le_trans (Nat.le_of_lt L0.out) hk))),zd (zd HB10.out GB2.out) GB2.out⟩
    rw [if_neg hl1,hXe] at h;simp only [Option.some.injEq,Prod.mk.injEq] at h;obtain ⟨hY,rfl,rfl⟩:=h;have k0:=zz H0_8.out 0;have k1:=zz H0_8.out 1;have k2:=zz H2_8.out 0;have k3:=zz H2_8.out 1;have f0:=zA H2_8.out 0;have f1:=zA H2_8.out 1;have HV8:=zh (Kd.N_V (base':=w.heap.size) HN8.out);rw [hY] at HV8
    have hfin : ∀ W1,W1=(w8.setCell ⟨g2,0,none⟩ (.slice (some ⟨g,0,none⟩) T1.length cg)).setCell ⟨g2,1,none⟩ (.int .i64 n1)→Kd.V k67 67 W1 w.heap.size (fun k_=>(P0_0_ k_∨w.heap.size≤k_)) (.slice (some ⟨g,0,none⟩) T1.length cg) r1∧Below w.heap.size w W1:=fun W1 e9=>by
     rw [e9];exact ⟨Kd.V_mono (Kd.V_far (p:=⟨g2,1,none⟩) (Kd.V_far (p:=⟨g2,0,none⟩) HV8.out (fun _ hk e9=>by rw [e9] at hk;exact Nat.lt_irrefl _ (Nat.lt_of_lt_of_le L2.out hk)) _) (fun _ hk e9=>by rw [e9] at hk;exact Nat.lt_irrefl _ (Nat.lt_of_lt_of_le L2.out hk)) _) (fun _ hk => .inr (Nat.le_trans GB0.out (Nat.le_trans (Nat.le_of_lt L0.out) hk))),zd (zd HB8.out GB2.out) GB2.out⟩
    have HFIN:=zh hfin;clear hfin hY hXe
    by_cases hl3 : l.length=1
    ·
     have c5 : ((l.length : Int) == 1)=true:=ya.mpr jD
     have c5n : (l.length == 1)=true:=ya.mpr hl3;have c6 : decide ((1 : Int)<(T1.length : Int))=false:=decide_eq_false (fun h9=>hl1 ⟨hl3,jD⟩);have c6n : decide (1<T1.length)=false:=decide_eq_false (fun h9=>hl1 ⟨hl3,h9⟩);clear hl1 hl3
     go_wp2_with fail
     refine bodyPost_ret (results_ct rfl _ _ g2 35 #[.slice (some ⟨g,0,none⟩) T1.length cg,.int .i64 n1] (0,0) _ rfl (blk_set (blk_set H2_8.out 0 (.slice (some ⟨g,0,none⟩) T1.length cg)) 1 (.int .i64 n1)) hu35 rfl jA) rfl ?_;exact ⟨_,rfl,HFIN.out _ rfl⟩
    have c5 : ((l.length : Int) == 1)=false:=zY.mpr jD;have c5n : (l.length == 1)=false:=zY.mpr hl3;clear hl1 hl3
    go_wp2_with fail
    refine bodyPost_ret (results_ct rfl _ _ g2 35 #[.slice (some ⟨g,0,none⟩) T1.length cg,.int .i64 n1] (0,0) _ rfl (blk_set (blk_set H2_8.out 0 (.slice (some ⟨g,0,none⟩) T1.length cg)) 1 (.int .i64 n1)) hu35 rfl jA) rfl ?_;exact ⟨_,rfl,HFIN.out _ rfl⟩
  have c3 : decide ((i : Int)<(l.length : Int))=false:=decide_eq_false (fun h9=>hil (Int.ofNat_lt.1 h9));have hA:=HA.out;rw [List.drop_of_length_le (Nat.le_of_not_lt hil)] at hA;simp only [Fk.at] at hA;subst hA;have h:=HH.out;simp only [Option.some.injEq,Prod.mk.injEq] at h;obtain ⟨rfl,rfl,rfl⟩:=h;have k0:=zz H0_2.out 0;have k1:=zz H0_2.out 1;have k2:=zz H2_2.out 0;have k3:=zz H2_2.out 1;have f0:=zA H2_2.out 0;have f1:=zA H2_2.out 1
  go_wp2_with fail
  refine bodyPost_ret (results_ct rfl _ _ g2 35 #[.slice (some ad) l0_0.length c0_0,.int .i64 a0_1] (0,0) _ rfl (blk_set (blk_set H2_2.out 0 (.slice (some ad) l0_0.length c0_0)) 1 (.int .i64 a0_1)) hu35 rfl jA) rfl ?_;exact ⟨_,rfl,Kd.V_mk hc0_0 (Kd.F_mono (Kd.F_far (p:=⟨g2,1,none⟩) (Kd.F_far (p:=⟨g2,0,none⟩) (Kd.F_below (Kd.F_bound HF0.out) HB2.out) (fun _ hk e9=>by rw [e9] at hk;exact Nat.lt_irrefl _ (Nat.lt_of_lt_of_le hk.2 GB2.out)) _) (fun _ hk e9=>by rw [e9] at hk;exact Nat.lt_irrefl _ (Nat.lt_of_lt_of_le hk.2 GB2.out)) _) (fun _ hk => .inl hk.1)),zd (zd HB2.out GB2.out) GB2.out⟩

end Go.Proofs.Ytamikhmpfmgofaa.Q
end
section
namespace Go.Proofs.Ytamikhmpfmgofaa.Pure
open Go Go.RowKit Go.Proofs.Ytamikhmpfmgofaa.Q Go.Proofs.YtamikhmpfmgofaaW.PrintWords Go.Proofs.YtamikhmpfmgofaaW.PrintLast Go.Proofs.YtamikhmpfmgofaaW.PrintMore Go.Proofs.YtamikhmpfmgofaaW.Pl
theorem el_irrefl (a : IEnt) : el a a=false:=by
 unfold el;rw [less_irrefl];simp
theorem el_total {a b : IEnt} (h1 : ¬ el a b=true) (h2 : ¬ el b a=true) : a=b:=by
 unfold el at h1 h2;simp only [Bool.or_eq_true,Bool.and_eq_true,decide_eq_true_eq,not_or,not_and] at h1 h2
 by_cases e : a.f0.toList=b.f0.toList
 ·
  have:=h1.2 e
  have:=h2.2 e.symm;have h3 : a.f1=b.f1:=by omega
  have h4 : a.f0=b.f0:=ba_ext e
  cases a;cases b;simp_all
 exact absurd (bl_total h1.1 e) h2.1
def Rise (l : List IEnt) : Prop:=l.Pairwise (fun a b=>el a b=true)
theorem ens_rise : ∀ (p : IEnt) (l : List IEnt),ens p l=true→Rise l
 | _,[],_=>List.Pairwise.nil
 | p,e :: l,h=>by
  have h':=h;simp only [ens,Bool.and_eq_true] at h';exact List.Pairwise.cons (fun x hx=>(ens_ahead _ _ h'.2.2 x hx).1) (ens_rise e l h'.2.2)
def up (e : IEnt) : List IEnt→Nat
 | []=>0
 | x :: xs=>if el x e=true then up e xs+1 else 0
theorem up_le (e : IEnt) : ∀ l : List IEnt,up e l≤l.length
 | []=>Nat.le_refl _
 | x :: xs=>by
  unfold up;have:=up_le e xs
  split
  ·
   simp only [List.length_cons];omega
  exact Nat.zero_le _
theorem up_before (e : IEnt) : ∀ (l : List IEnt) (j : Nat) (hj : j<l.length),j<up e l→el l[j] e=true
 | [],_,hj,_=>by simp at hj
 | x :: xs,j,hj,h=>by
  unfold up at h
  by_cases c : el x e=true
  ·
   rw [if_pos c] at h
   cases j with
   | zero=>exact c
   | succ j=>exact up_before e xs j (by simpa using hj) (by omega)
  rw [if_neg c] at h;omega
theorem up_at (e : IEnt) : ∀ (l : List IEnt) (h : up e l<l.length),¬ el l[up e l] e=true
 | [],h=>by simp at h
 | x :: xs,h=>by
  by_cases c : el x e=true
  ·
   have hu : up e (x :: xs)=up e xs+1:=by simp only [up,if_pos c]
   have h2 : up e xs<xs.length:=by rw [hu] at h;simpa using h
   have:=up_at e xs h2;simp only [hu,List.getElem_cons_succ];exact this
  have hu : up e (x :: xs)=0:=by simp only [up,if_neg c]
  simp only [hu,List.getElem_cons_zero];exact c
theorem rise_at {l : List IEnt} (hr : Rise l) (i j : Nat) (hi : i<l.length) (hj : j<l.length) (h : i<j) : el l[i] l[j]=true:=List.pairwise_iff_getElem.1 hr i j hi hj h
theorem up_is {l : List IEnt} (e : IEnt) (p : Nat) (hp : p≤l.length) (h1 : ∀ j (hj : j<l.length),j<p→el l[j] e=true) (h2 : ∀ j (hj : j<l.length),p≤j → ¬ el l[j] e=true) : up e l=p:=by
 have hl:=up_le e l;rcases Nat.lt_trichotomy (up e l) p with h|h|h
 ·
  exact absurd (h1 _ (by omega) h) (up_at e l (by omega))
 ·
  exact h
 exact absurd (up_before e l p (by omega) h) (h2 p (by omega) (Nat.le_refl _))
def th (e : IEnt) (l : List IEnt) : Bool:=if h : up e l<l.length then (decide (l[up e l].f0.toList=e.f0.toList) && decide (l[up e l].f1=e.f1)) else false
theorem ent_eq {a b : IEnt} (h0 : a.f0.toList=b.f0.toList) (h1 : a.f1=b.f1) : a=b:=by
 have:=ba_ext h0
 cases a;cases b;simp_all
theorem th_iff (e : IEnt) (l : List IEnt) : th e l=true ↔ ∃ h : up e l<l.length,l[up e l]=e:=by
 unfold th
 by_cases h : up e l<l.length
 ·
  rw [dif_pos h]
  simp only [Bool.and_eq_true,decide_eq_true_eq];exact ⟨fun h2=>⟨h,ent_eq h2.1 h2.2⟩,fun ⟨_,h2⟩=>by rw [h2];exact ⟨rfl,rfl⟩⟩
 rw [dif_neg h];exact ⟨fun h2=>absurd h2 (by decide),fun ⟨h2,_⟩=>absurd h2 h⟩
theorem own_tells (T : List IPag) (n : Int) (hT : T.length≤1048576) (hp : ∀ p ∈ T,p.f1.length≤1048576) : Eve (fun k=>F3.f k T n) (T,n):=by
 simp only [F3.f]
 have:=ev_loop0 T (fun k (o : List IPag) i=>F3.l0 k o i T n) (fun _ o r=>(o++r,n)) (fun i o=>o.length=i) (fun o ho=>by
  simp only [F3.l0]
  exact Eve.ite (fun h=>absurd h (by omega)) (fun _=>Eve.one.eq (by simp))) (fun i hi o ho ih=>by
  have hpi:=hp _ (List.getElem_mem hi);simp only [F3.l0,Option.bind_some,rdIP _ _ hi,wi (show i≤9223372036854775806 by omega),List.length_nil,List.nil_append];refine Eve.ite (fun _=>?_) (fun h=>absurd (by omega) h);refine Eve.ite (fun _=>?_) (fun h=>absurd (by omega) h);refine Eve.ite (fun _=>?_) (fun h=>absurd (by omega) h);refine Eve.ite (fun _=>?_) (fun h=>absurd (by omega) h)
  exact (ih _ (by simp [ho])).eq (by rw [List.append_assoc];rfl)) [] rfl
 simpa using this
def pgN (T : List IPag) (e : IEnt) : Nat:=(place e 0 0 T).toNat
theorem pg_lt {T : List IPag} (e : IEnt) (h : 0<T.length) : pgN T e<T.length∧place e 0 0 T=(pgN T e : Int):=by
 have:=place_in e T 0 0 (by omega) (by omega);unfold pgN
 omega
def cutP (T : List IPag) (j i : Nat) (p : IPag) : List IPag:=if p.f1.length=1∧1<T.length then ((T.set j ⟨p.f0,p.f1.take i++p.f1.drop (i+1)⟩).take j)++((T.set j ⟨p.f0,p.f1.take i++p.f1.drop (i+1)⟩).drop (j+1)) else T.set j ⟨p.f0,p.f1.take i++p.f1.drop (i+1)⟩
def pageN (T : List IPag) (e : IEnt) : IPag:=T.getD (pgN T e) ⟨0,[]⟩
def dropT (T : List IPag) (e : IEnt) : List IPag:=cutP T (pgN T e) (up e (pageN T e).f1) (pageN T e)
theorem pageN_at {T : List IPag} (e : IEnt) (h : 0<T.length) : pageN T e=T[pgN T e]'(pg_lt e h).1:=by
 unfold pageN;rw [List.getD_eq_getElem?_getD,List.getElem?_eq_getElem (pg_lt e h).1];rfl
theorem rd_page {T : List IPag} (e : IEnt) (h : 0<T.length) : rd_T67 T (place e 0 0 T)=pageN T e:=by
 rw [(pg_lt e h).2,rdIP _ _ (pg_lt e h).1,pageN_at e h]
theorem flat_page {T : List IPag} {p : IPag} (h : p ∈ T) : p.f1.Sublist (T.flatMap (·.f1)):=by
 obtain ⟨i,hi,rfl⟩:=List.getElem_of_mem h
 have : T.flatMap (·.f1)=(T.take i).flatMap (·.f1)++(T[i].f1++(T.drop (i+1)).flatMap (·.f1)):=by
  conv=>lhs;rw [← List.take_append_drop i T,drop_at T i hi,List.flatMap_append,List.flatMap_cons]
 rw [this];exact (List.sublist_append_left _ _).trans (List.sublist_append_right _ _)
theorem page_rise {T : List IPag} (hr : Rise (T.flatMap (·.f1))) {p : IPag} (h : p ∈ T) : Rise p.f1:=List.Pairwise.sublist (flat_page h) hr
end Go.Proofs.Ytamikhmpfmgofaa.Pure
end
section
namespace Go.Proofs.Ytamikhmpfmgofaa.Q
open Go.RowKit Go.Proofs.YtamikhmpfmgofaaW.PrintWords Go.Proofs.YtamikhmpfmgofaaW.PrintLast Go.Proofs.YtamikhmpfmgofaaW.PrintMore
attribute [local go_sem] max2_int min2_int max_two min_two max_three min_three max_four min_four max2_str min2_str str_geq str_gtr str_leq
set_option linter.unusedVariables false
set_option linter.unusedSimpArgs false

def Fr.j0 : Nat→Bool→List (S67)→Int→ByteArray→Int→Option ((List (S67))×Int×Int)
 | 0,_,_,_,_,_=>none
 | k+1,x15,x451000,x451001,x452000,x452001=>if x15=true then (some (([] : List (S67)),0,1)) else ((Fk.f k x451000 x451001 x452000 x452001).bind fun bt455=>((F3.f k bt455.1 bt455.2.1).bind fun bt461=>(some (bt461.1,bt461.2,bt455.2.2))))
def Fr.f (k : Nat) (l0_0 : List (S67)) (a0_1 : Int) (a1_0 : ByteArray) (a1_1 : Int) : Option ((List (S67))×Int×Int):=(F0.f k l0_0 a0_1).bind fun t453=>(if t453=true then ((F0c.f a1_0 a1_1).bind fun t454=>(Fr.j0 k (!t454) l0_0 a0_1 a1_0 a1_1)) else (Fr.j0 k true l0_0 a0_1 a1_0 a1_1))
theorem Fr.mono_l : ∀ k,(∀ y0 y1 y2 y3 y4,LeO (Fr.j0 k y0 y1 y2 y3 y4) (Fr.j0 (k+1) y0 y1 y2 y3 y4))
 | 0=>fun _ _ _ _ _ r h=>by simp [Fr.j0] at h
 | k+1=>by
  have ih0:=Fr.mono_l k;intro y0 y1 y2 y3 y4;unfold Fr.j0
  repeat' first|(with_reducible first|exact ih0 _ _ _ _ _|exact F0.mono _ _ _|exact Fk.mono _ _ _ _ _|exact F3.mono _ _ _|exact zQ _|exact zN _|refine zP ?_ ?_|refine zO ?_ (fun _=>?_))|refine zP ?_ ?_|refine zO ?_ (fun _=>?_)
theorem Fr.mono : ∀ a0 a1 a2 a3 k,LeO (Fr.f k a0 a1 a2 a3) (Fr.f (k+1) a0 a1 a2 a3):=by
 intro a0 a1 a2 a3 k;have ih0:=Fr.mono_l k;unfold Fr.f
 repeat' first|(with_reducible first|exact ih0 _ _ _ _ _|exact F0.mono _ _ _|exact Fk.mono _ _ _ _ _|exact F3.mono _ _ _|exact zQ _|exact zN _|refine zP ?_ ?_|refine zO ?_ (fun _=>?_))|refine zP ?_ ?_|refine zO ?_ (fun _=>?_)
set_option maxHeartbeats 8000000 in
set_option maxRecDepth 100000 in
theorem Fr.calls (k : Nat) (A0_0 : Option Addr) (c0_0 : Nat) (l0_0 : List (S67)) (a0_1 : Int) (a1_0 : ByteArray) (a1_1 : Int) (r1 : List (S67)) (r2 : Int) (r3 : Int) (w : World) (hr0_0 : Kd.C k67 w A0_0 l0_0.length l0_0) (hc0_0 : l0_0.length≤c0_0) (h : Fr.f k l0_0 a0_1 a1_0 a1_1=some (r1,r2,r3)) :
  Calls Try.prog 21 #[.agg #[.slice A0_0 l0_0.length c0_0,.int .i64 a0_1],.agg #[.string a1_0,.int .i64 a1_1]] w fun e w' => ∃ v0_ : Value,e = .returned (.tuple #[.agg #[v0_,.int .i64 r2],.int .i64 r3])∧Kd.S k67 67 w' w.heap.size (fun _=>True) v0_ r1∧Below w.heap.size w w':=by
 have hu35:=Try.underlying35;have hu51:=Try.underlying51;have HR0_0:=zh hr0_0;have HC0_0:=zh hc0_0;clear hr0_0 hc0_0;have HB:=zh (Below.refl w.heap.size w);have H : ((F0.f k l0_0 a0_1).bind fun t453=>(if t453=true then ((F0c.f a1_0 a1_1).bind fun t454=>(Fr.j0 k (!t454) l0_0 a0_1 a1_0 a1_1)) else (Fr.j0 k true l0_0 a0_1 a1_0 a1_1)))=some (r1,r2,r3):=h;clear h;have HC3:=zh H;clear H
 go_enter Try.func21,Try.ntmps21
 go_upto_region 1 with (first|((with_reducible refine zK (N:=2) rfl ?_);refine zI ?hg (N:=2) ?hd (cs:=#[.slice A0_0 l0_0.length c0_0,.int .i64 a0_1]) (t:=35) ?hr ?_;(case hd=>rfl);(case hg=>rfl);(case hr=>go_simp <;> rfl);intro gb450 hg w4 hbox hb;have BK450:=zh (hbox);have hH_:=cH jF hb hg;have GW450:=zh hH_.1;have GE450:=GW450;replace HB:=zh hH_.2;clear hb hbox hg hH_)|((with_reducible refine zK (N:=3) rfl ?_);refine zI ?hg (N:=3) ?hd (cs:=#[.string a1_0,.int .i64 a1_1]) (t:=51) ?hr ?_;(case hd=>rfl);(case hg=>rfl);(case hr=>go_simp <;> rfl);intro gb451 hg w5 hbox hb;have BK451:=zh (hbox);have hH_:=cH (by repeat (with_reducible first|exact HB.out|apply za|apply zb|apply zc|refine zd ?_ GE450.out)) hb hg;have GW451:=zh hH_.1;have GE451:=GW451;replace HB:=zh hH_.2;have NB450_451:=zh ((jBL : gb450≠gb451));have NB451_450:=zh NB450_451.out.symm;replace BK450:=zh (cD BK450.out jW hb);clear hb hbox hg hH_)|((with_reducible refine zK (N:=4) rfl ?_);refine zI ?hg (N:=4) ?hd (cs:=#[.slice none 0 0,.int .i64 0]) (t:=35) ?hr ?_;(case hd=>rfl);(case hg=>rfl);(case hr=>go_simp <;> rfl);intro gb452 hg w6 hbox hb;have BK452:=zh (hbox);have hH_:=cH (by repeat (with_reducible first|exact HB.out|apply za|apply zb|apply zc|refine zd ?_ GE450.out|refine zd ?_ GE451.out)) hb hg;have GW452:=zh hH_.1;have GE452:=GW452;replace HB:=zh hH_.2;have NB450_452:=zh ((jBL : gb450≠gb452));have NB452_450:=zh NB450_452.out.symm;replace BK450:=zh (cD BK450.out jW hb);have NB451_452:=zh ((jBz : gb451≠gb452));have NB452_451:=zh NB451_452.out.symm;replace BK451:=zh (cD BK451.out jf hb);clear hb hbox hg hH_))
 (try simp only [Act.put,zi,zj,zk])
 go_cut [15] (fun v15 wc => ∃ (kq : Nat) (x15_2 : Bool),v15 = .bool x15_2∧Aside0 (Fr.j0 kq x15_2 l0_0 a0_1 a1_0 a1_1=some (r1,r2,r3))∧Aside0 (kq≤k)∧Aside0 (wc.heap[gb450]? = some (.cells #[(.slice A0_0 l0_0.length c0_0),.int .i64 a0_1] 35 (0,0)))∧Aside0 (wc.heap[gb451]? = some (.cells #[.string a1_0,.int .i64 a1_1] 51 (0,0)))∧Aside0 (wc.heap[gb452]? = some (.cells #[(.slice none 0 0),.int .i64 0] 35 (0,0)))∧Aside0 (Below w.heap.size w wc))
 case first =>
  have H:=HC3.out;clear HC3;replace H:=zT.mp H;obtain ⟨t453,A70,H⟩:=H;have A7:=zh A70;clear A70
  by_cases c8 : t453=true
  ·
   subst c8
   rw [if_pos rfl] at H;replace H:=zT.mp H;obtain ⟨t454,A90,H⟩:=H;have A9:=zh A90;clear A90;have H':=zh H;clear H;have hnb10:=NB450_451.out;have hnc10:=NB451_450.out;have hnb11:=NB450_452.out;have hnc11:=NB452_450.out;obtain ⟨hcz12_0,hcz12_1,hfz12_0,hfz12_1⟩:=cB2 BK450.out
   go_wp2_with (first|((with_reducible refine zJ (f:=28) rfl ?_);refine yj (some 9) rfl rfl Try.func28 jA rfl #[.agg #[.slice A0_0 l0_0.length c0_0,.int .i64 a0_1]] rfl jG ?_;(with_reducible refine (F0.calls k  _ _ l0_0 a0_1 true _ ?side1 ?side2 A7.out).mono ?_);(case side1=>repeat (first|exact (Kd.C_below HR0_0.out HB.out)|(with_reducible refine Kd.C_alloc ?_ _)|(with_reducible refine Kd.C_drewN ?_ _)|(with_reducible refine Kd.C_drew ?_)));(case side2=>exact HC0_0.out);rintro e w13 ⟨rfl,hb⟩;refine ⟨_,rfl,?_⟩;replace BK450:=zh (cD BK450.out jW hb);replace BK451:=zh (cD BK451.out jf hb);replace BK452:=zh (cD BK452.out jh hb);replace HB:=zh (zC jg hb);(try clear hb);(try clear hb2);(try clear hk);(try clear hi);have hnb14:=NB451_452.out;have hnc14:=NB452_451.out;obtain ⟨hcz15_0,hcz15_1,hfz15_0,hfz15_1⟩:=cB2 BK451.out)|(go_at_call 41;(with_reducible refine (F0c.calls  a1_0 a1_1 t454 _ A9.out).mono ?_);rintro e w16 ⟨rfl,hb⟩;replace BK450:=zh (cD BK450.out jW hb);replace BK451:=zh (cD BK451.out jf hb);replace BK452:=zh (cD BK452.out jh hb);replace HB:=zh (zC jg hb);(try clear hb);(try clear hb2);(try clear hk);(try clear hi)))
   go_meet
   case rel=>exact ⟨_,(!t454),jE,H',⟨jw⟩,⟨jW⟩,⟨jf⟩,⟨jh⟩,⟨jg⟩⟩
  replace c8:=yb.mpr c8;subst c8;rw [if_neg (show ¬ (false=true) by decide)] at H;have H':=zh H;clear H;have hnb17:=NB450_451.out;have hnc17:=NB451_450.out;have hnb18:=NB450_452.out;have hnc18:=NB452_450.out;obtain ⟨hcz19_0,hcz19_1,hfz19_0,hfz19_1⟩:=cB2 BK450.out
  go_wp2_with (first|((with_reducible refine zJ (f:=28) rfl ?_);refine yj (some 9) rfl rfl Try.func28 jA rfl #[.agg #[.slice A0_0 l0_0.length c0_0,.int .i64 a0_1]] rfl jG ?_;(with_reducible refine (F0.calls k  _ _ l0_0 a0_1 false _ ?side1 ?side2 A7.out).mono ?_);(case side1=>repeat (first|exact (Kd.C_below HR0_0.out HB.out)|(with_reducible refine Kd.C_alloc ?_ _)|(with_reducible refine Kd.C_drewN ?_ _)|(with_reducible refine Kd.C_drew ?_)));(case side2=>exact HC0_0.out);rintro e w20 ⟨rfl,hb⟩;refine ⟨_,rfl,?_⟩;replace BK450:=zh (cD BK450.out jW hb);replace BK451:=zh (cD BK451.out jf hb);replace BK452:=zh (cD BK452.out jh hb);replace HB:=zh (zC jg hb);(try clear hb);(try clear hb2);(try clear hk);(try clear hi)))
  go_meet
  case rel=>exact ⟨_,(true),jE,H',⟨jw⟩,⟨jW⟩,⟨jf⟩,⟨jh⟩,⟨jg⟩⟩
 case rest =>
  clear HC3
  try clear c1 c2
  try clear p2
  try clear c8 c10 c11 c14 c17 c18
  try clear hcz12_0 hcz12_1
  try clear hcz15_0 hcz15_1
  try clear hcz19_0 hcz19_1
  try clear hfz12_0 hfz12_1
  try clear hfz15_0 hfz15_1
  try clear hfz19_0 hfz19_1
  obtain ⟨kq,x15_2,rfl,HA,HJ2,BK450,BK451,BK452,HB⟩:=hcut
  cases kq with
  | zero=>exact absurd HA.out (by simp [Fr.j0])
  | succ kj2 =>
   have H:=HA.out;clear HA;simp only [Fr.j0] at H
   by_cases c21 : x15_2=true
   ·
    subst c21
    rw [if_pos rfl] at H;simp only [Option.some.injEq,Prod.mk.injEq] at H;obtain ⟨rfl,rfl,rfl⟩:=H;have hnb22:=NB452_450.out;have hnc22:=NB450_452.out;have hnb23:=NB452_451.out;have hnc23:=NB451_452.out;obtain ⟨hcz24_0,hcz24_1,hfz24_0,hfz24_1⟩:=cB2 BK452.out
    go_wp2
    refine bodyPost_ret (results_ct rfl _ _ gb452 35 #[.slice none 0 0,.int .i64 0] (0,0) _ rfl (by (with_reducible repeat first|apply ze|apply zf|apply zg);refine zL (cs:=#[.slice none 0 0,.int .i64 0]) ?_ 1 _ rfl;(with_reducible repeat first|apply ze|apply zf|apply zg);refine zL (cs:=#[.slice none 0 0,.int .i64 0]) ?_ 0 _ rfl;(with_reducible repeat first|apply ze|apply zf|apply zg);exact BK452.out) Try.underlying35 rfl jA) rfl ?_;exact ⟨_,jH,jBo,jg⟩
   replace c21:=yb.mpr c21;subst c21;rw [if_neg (show ¬ (false=true) by decide)] at H;replace H:=zT.mp H;obtain ⟨⟨t455,t458,t459⟩,A250,H⟩:=H;have A25:=zh A250;clear A250;replace H:=zT.mp H;obtain ⟨⟨t461,t464⟩,A260,H⟩:=H;have A26:=zh A260;clear A260;simp only [Option.some.injEq,Prod.mk.injEq] at H;obtain ⟨rfl,rfl,rfl⟩:=H;have hnb27:=NB450_451.out;have hnc27:=NB451_450.out;have hnb28:=NB450_452.out;have hnc28:=NB452_450.out;obtain ⟨hcz29_0,hcz29_1,hfz29_0,hfz29_1⟩:=cB2 BK450.out;have hnb30:=NB451_452.out;have hnc30:=NB452_451.out;obtain ⟨hcz31_0,hcz31_1,hfz31_0,hfz31_1⟩:=cB2 BK451.out
   go_wp2_with (first|((with_reducible refine zJ (f:=42) rfl ?_);refine yj (some 20) rfl rfl Try.func42 jA rfl #[.agg #[.slice A0_0 l0_0.length c0_0,.int .i64 a0_1],.agg #[.string a1_0,.int .i64 a1_1]] rfl jG ?_;(with_reducible refine (Fk.calls kj2  (fun k_=>k_<w.heap.size) _ _ l0_0 a0_1 a1_0 a1_1 t455 t458 t459 _ ?side1 A25.out).mono ?_);(case side1=>exact Kd.V_mk HC0_0.out (Kd.F_below (Kd.C_F k67_heap HR0_0.out) jg));rintro e w32 ⟨v456,rfl,ho0,hb⟩;refine ⟨_,rfl,?_⟩;have HO457:=zh (Kd.V_lower (Kd.V_mono (ok':=fun k_=>k_≠gb450∧k_≠gb451∧k_≠gb452) ho0 (fun k_ hk_=>⟨Or.elim hk_ (fun hs_=>fun e_=>Nat.not_le.2 hs_ (by rw [e_];exact GW450.out)) (fun hn_=>(Kd.freshB (g:=gb450) (o:=.cells #[.slice A0_0 l0_0.length c0_0,.int .i64 a0_1] 35 (0,0)) jW k_ hn_)),Or.elim hk_ (fun hs_=>fun e_=>Nat.not_le.2 hs_ (by rw [e_];exact GW451.out)) (fun hn_=>(Kd.freshB (g:=gb451) (o:=.cells #[.string a1_0,.int .i64 a1_1] 51 (0,0)) jf k_ hn_)),Or.elim hk_ (fun hs_=>fun e_=>Nat.not_le.2 hs_ (by rw [e_];exact GW452.out)) (fun hn_=>(Kd.freshB (g:=gb452) (o:=.cells #[.slice none 0 0,.int .i64 0] 35 (0,0)) jh k_ hn_))⟩)) (zB jg));replace BK450:=zh (cD BK450.out jW hb);replace BK451:=zh (cD BK451.out jf hb);replace BK452:=zh (cD BK452.out jh hb);replace HB:=zh (zC jg hb);(try clear hb);(try clear hb2);(try clear hk);(try clear hi);(try clear ho0))|((with_reducible refine zK (N:=6) rfl ?_);refine zI ?hg (N:=6) ?hd (cs:=#[.slice none 0 0,.int .i64 0]) (t:=35) ?hr ?_;(case hd=>rfl);(case hg=>rfl);(case hr=>go_simp <;> rfl);intro gb460 hg w33 hbox hb;replace HO457:=zh (Kd.V_below (Kd.V_elderB (by (with_reducible repeat (first|apply Kd.V_alloc|apply Kd.V_drewN|apply Kd.V_drew));exact HO457.out) gb460 (Nat.le_of_eq hg.symm)) hb);have BK460:=zh (hbox);have hH_:=cH jg hb hg;have GW460:=zh hH_.1;have GE460:=GW460;replace HB:=zh hH_.2;have NB450_460:=zh ((jBL : gb450≠gb460));have NB460_450:=zh NB450_460.out.symm;replace BK450:=zh (cD BK450.out jW hb);have NB451_460:=zh ((jBz : gb451≠gb460));have NB460_451:=zh NB451_460.out.symm;replace BK451:=zh (cD BK451.out jf hb);have NB452_460:=zh ((by rw [hg];exact yc (yi (g:=gb452) (o:=.cells #[.slice none 0 0,.int .i64 0] 35 (0,0)) jh) : gb452≠gb460));have NB460_452:=zh NB452_460.out.symm;replace BK452:=zh (cD BK452.out jh hb);clear hb hbox hg hH_;obtain ⟨Ao34,co34,eo34⟩:=Kd.V_slice HO457.out;subst eo34;have hnb35:=NB460_450.out;have hnc35:=NB450_460.out;have hnb36:=NB460_451.out;have hnc36:=NB451_460.out;have hnb37:=NB460_452.out;have hnc37:=NB452_460.out;obtain ⟨hcz38_0,hcz38_1,hfz38_0,hfz38_1⟩:=cB2 BK460.out)|((with_reducible refine zJ (f:=43) rfl ?_);refine yj (some 24) rfl rfl Try.func43 jA rfl #[.agg #[.slice Ao34 t455.length co34,.int .i64 t458]] rfl jG ?_;(with_reducible refine (F3.calls kj2  _ _ t455 t458 t461 t464 _ ?side1 ?side2 A26.out).mono ?_);(case side1=>refine (Kd.V_reads' (e:=67) (base:=w.heap.size) (ok:=fun k_=>((k_≠gb450∧(k_≠gb451∧k_≠gb452))∧k_≠gb460)) (n:=t455.length) (c:=co34) ?_).2.2;exact jB0);(case side2=>exact (Kd.V_reads' HO457.out).2.1);rintro e w39 ⟨v462,rfl,ho0,hb⟩;refine ⟨_,rfl,?_⟩;replace HO457:=zh (Kd.V_elder' jB0 (Kd.S_base ho0) hb);have HO463:=zh (Kd.S_lower (Kd.S_newB ho0 (g:=gb451) (o:=.cells #[.string a1_0,.int .i64 a1_1] 51 (0,0)) jB1) (zB jBM));replace BK450:=zh (cD BK450.out (by (with_reducible repeat first|apply ze|apply zf|apply zg);refine cS2 ?_ NB450_460.out;(with_reducible repeat first|apply ze|apply zf|apply zg);exact BK450.out) hb);replace BK451:=zh (cD BK451.out jB1 hb);replace BK452:=zh (cD BK452.out (by (with_reducible repeat first|apply ze|apply zf|apply zg);refine cS2 ?_ NB452_460.out;(with_reducible repeat first|apply ze|apply zf|apply zg);exact BK452.out) hb);replace BK460:=zh (zD (g:=gb460) (o:=.cells #[.slice Ao34 t455.length co34,.int .i64 t458] 35 (0,0)) (by (with_reducible repeat first|apply ze|apply zf|apply zg);refine zL (cs:=#[.slice Ao34 t455.length co34,.int .i64 0]) ?_ 1 _ rfl;(with_reducible repeat first|apply ze|apply zf|apply zg);refine zL (cs:=#[.slice none 0 0,.int .i64 0]) ?_ 0 _ rfl;(with_reducible repeat first|apply ze|apply zf|apply zg);exact BK460.out) hb);replace HB:=zh (zC jBM hb);(try clear hb);(try clear hb2);(try clear hk);(try clear hi);(try clear ho0);obtain ⟨Ao40,co40,eo40⟩:=Kd.S_slice HO463.out;subst eo40;obtain ⟨hcz41_0,hcz41_1,hfz41_0,hfz41_1⟩:=cB2 BK452.out))
   refine bodyPost_ret (results_ct rfl _ _ gb452 35 #[.slice Ao40 t461.length co40,.int .i64 t464] (0,0) _ rfl (by (with_reducible repeat first|apply ze|apply zf|apply zg);refine zL (cs:=#[.slice Ao40 t461.length co40,.int .i64 0]) ?_ 1 _ rfl;(with_reducible repeat first|apply ze|apply zf|apply zg);refine zL (cs:=#[.slice none 0 0,.int .i64 0]) ?_ 0 _ rfl;(with_reducible repeat first|apply ze|apply zf|apply zg);exact BK452.out) Try.underlying35 rfl jA) rfl ?_;exact ⟨_,jH,by (with_reducible repeat (first|apply Kd.S_alloc|apply Kd.S_drewN|apply Kd.S_drew));exact Kd.S_mono (Kd.S_far (p:=⟨gb452,1,none⟩) (Kd.S_far (p:=⟨gb452,0,none⟩) (Kd.S_types HO463.out BK452.out jB) (fun _ hk=>hk.2) (.slice Ao40 t461.length co40)) (fun _ hk=>hk.2) (.int .i64 t464)) (fun _ hk=>trivial),jBM⟩


theorem F01.R_behind {α : Type} {d : Kd α} {e base g n cap : Nat} {ok : Nat→Prop} {W : World} {xs : List α}
  (h : d.R e W base ok (.slice (some ⟨g,0,none⟩) n cap) xs) (o : Nat) (seg : List Value) (hno : n*d.sz≤o) (hs : o+seg.length≤cap*d.sz) :
  d.R e (W.setCells g o seg) base ok (.slice (some ⟨g,0,none⟩) n cap) xs∧W.grownBy (W.setCells g o seg) (some g):=by
 obtain ⟨hn,hnc,_⟩:=yh h;obtain ⟨hok,inner,ho,hr⟩:=h;obtain ⟨ho1,ho2⟩:=ho;rcases ho2 with ⟨hv,_⟩|⟨g',cap',cur,hv,hb,hh,hnc',hcm,hcs,ht⟩
 ·
  cases hv
 injection hv with ha _ hc;injection ha with ha;injection ha with hg;subst hg;subst hc;have hfit : o+seg.length≤cur.size:=by rw [hcs];omega
 obtain ⟨cur',h3,h4,h5⟩:=setCells_row seg o W cur hh hfit;obtain ⟨s1,s2,s3,s4⟩:=setCells_same g seg o W;have hfar : ∀ k,k≠g→(W.setCells g o seg).heap[k]? = W.heap[k]?:=fun k hk=>setCells_far seg _ k hk;have hgo : some g=(Value.slice (some ⟨g,0,none⟩) n cap).ownBlock:=by simp [Value.ownBlock]
 refine ⟨⟨hok,inner,⟨ho1,.inr ⟨g,cap,cur',by rw [hn],hb,h3,hnc',hcm,by rw [h4,hcs],?_⟩⟩,?_⟩,
  ⟨s1,s2,s3,by rw [s4];exact ye _,fun k _ hk=>hfar k (fun he=>hk (by rw [he]))⟩⟩
 ·
  rw [← ht]
  apply List.ext_getElem?
  intro q;rw [List.getElem?_take,List.getElem?_take,h5]
  by_cases hq : q<xs.length*d.sz
  ·
   rw [if_pos hq,if_pos hq,seg_get cur.toList seg o (by rw [Array.length_toList];omega) q,if_pos (by rw [← hn] at hq;omega)]
  rw [if_neg hq,if_neg hq]
 exact hr.imp_ (fun x cs hM=>Kd.M_step hM (fun k hk _=>hfar k (fun he=>hk.2 (by rw [he];exact hgo))))
theorem F01.run_clear {P : Program} (w : World) (t e ty : TypeId) (z : Value) (ht : P.underlying t=some (.slice e)) (hv : ∀ w,(zeroValue e).run P w = .ok z w) (h1 : ∀ i,i<z.cells.size→(z.cells[i]!).oneCell' = true) (b o n c : Nat) (hn : 0<n)
  (hc : ∀ j,j<n*z.cells.size→(w.cell? ⟨b,o+j,none⟩).isSome=true) (hf : ∀ j,j<n*z.cells.size→w.frozen? ⟨b,o+j,none⟩=false) :
  (Builtin.clear_ #[t] ty #[.slice (some ⟨b,o,none⟩) n c]).run P w = .ok (.tuple #[]) (w.setCells b o (Builtin.zeroCells z.cells n).toList):=by
 have hlen : (Builtin.zeroCells z.cells n).toList.length=n*z.cells.size:=by simp [Builtin.zeroCells]
 have hst:=run_storeCells_cells (P:=P) b o (Builtin.zeroCells z.cells n).toList 0 w (by rw [hlen];simpa using hc) (by rw [hlen];simpa using hf) (by
  intro v hv';simp only [Builtin.zeroCells,Array.toList_map,Array.toList_range,List.mem_map,List.mem_range] at hv';obtain ⟨i,hi,rfl⟩:=hv'
  have hz : 0<z.cells.size:=by
   rcases Nat.eq_zero_or_pos z.cells.size with h|h
   ·
    rw [h] at hi;simp at hi
   exact h
  exact h1 _ (Nat.mod_lt _ hz))
 simp only [Nat.add_zero] at hst;obtain ⟨m,rfl⟩ : ∃ m,n=m+1:=⟨n - 1,jD⟩;simp [Builtin.clear_,run_underlying ht,hv,hst]
theorem F01.zeros_length (z : Array Value) (n : Nat) : (Builtin.zeroCells z n).toList.length=n*z.size:=by simp [Builtin.zeroCells]
theorem F01.there {α : Type} {d : Kd α} {e base g n cap : Nat} {ok : Nat→Prop} {W : World} {xs : List α} (h : d.R e W base ok (.slice (some ⟨g,0,none⟩) n cap) xs) (j : Nat) (hj : j<cap*d.sz) : (W.cell? ⟨g,j,none⟩).isSome=true∧W.frozen? ⟨g,j,none⟩=false:=by
 obtain ⟨_,inner,⟨_,h⟩,_⟩:=h;rcases h with ⟨hv,_⟩|⟨g',cap',cur,hv,_,hh,_,_,hcs,_⟩
 ·
  cases hv
 injection hv with ha _ hc;injection ha with ha;injection ha with hg;subst hg;subst hc;refine ⟨?_,zA hh j⟩;rw [zz hh,Array.getElem?_eq_getElem (by rw [hcs];exact hj)];rfl
def F01.f (l0 : List S51) (a1 : Int) (a2 : Int) : Option (List S51):=if 0≤a1 then (if a1<(l0.length : Int) then (if a2=a1+1 then (if l0.length≤4611686018427387904 then (some (l0.eraseIdx a1.toNat)) else none) else none) else none) else none
set_option maxHeartbeats 4000000 in
set_option maxRecDepth 100000 in
theorem F01.calls (P0_ : Nat→Prop) (u9000_ : Value) (l0 : List S51) (a1 : Int) (a2 : Int) (r : List S51) (w0 w : World) (hB : Below w0.heap.size w0 w) (ho0 : Kd.R k51 51 w w0.heap.size P0_ u9000_ l0) (h : F01.f l0 a1 a2=some r) :
  Calls Try.prog 63 #[u9000_,.int .i64 a1,.int .i64 a2] w fun e w' => ∃ v0_ : Value,e = .returned (v0_)∧Kd.R k51 51 w' w0.heap.size (fun k_=>(P0_ k_∨w.heap.size≤k_)) v0_ r∧Below w0.heap.size w0 w' ∧ Kept w w' (fun k_=>P0_ k_):=by
 unfold F01.f at h
 by_cases h0 : 0≤a1
 case neg=>rw [if_neg h0] at h;cases h
 rw [if_pos h0] at h
 by_cases h1 : a1<(l0.length : Int)
 case neg=>rw [if_neg h1] at h;cases h
 rw [if_pos h1] at h
 by_cases h2 : a2=a1+1
 case neg=>rw [if_neg h2] at h;cases h
 rw [if_pos h2] at h
 by_cases h3 : l0.length≤4611686018427387904
 case neg=>rw [if_neg h3] at h;cases h
 rw [if_pos h3] at h;obtain rfl:=zU h;clear h;obtain ⟨i,rfl⟩ : ∃ i : Nat,a1=(i : Int):=⟨a1.toNat,jD⟩;subst h2;have hil : i<l0.length:=by omega
 rw [Int.toNat_natCast];obtain ⟨g,c,rfl,gb,gl,cl,HGc⟩:=Kd.R_form ho0 jD;obtain ⟨hn,hnc,hC⟩:=yh ho0
 have hsz : (Try.prog.info? 51).map (·.size)=some 2:=by have:=info51;cases hq : Try.prog.info? 51 with
  | none=>rw [hq] at this;cases this
  | some i0=>rw [hq] at this;simp at this;simp [this.2.1]
 have hdc : w.drew.heap=w.heap:=rfl;have mixed : Try.prog.follows Departure.mixedOrders=true:=by rfl
 have hi0 : (0 : Int)≤(i : Int):=Int.natCast_nonneg i;have hi1 : (i : Int)≤(l0.length : Int):=by omega
 have hi2 : (i : Int)≤(c : Int):=by omega
 have hi3 : (0 : Int)≤(i : Int)+1:=by omega
 have hi4 : (i : Int)+1≤(l0.length : Int):=by omega
 have hi5 : (l0.length : Int)≤(c : Int):=by omega
 have hi6 : (i : Int)≤(i : Int)+1:=by omega
 have hi7 : (i : Int)+1≤(c : Int):=by omega
 have htn : ((i : Int)+1).toNat=i+1:=by omega
 have hne : ¬ ((i : Int)=(i : Int)+1):=by omega
 have hneb : ((i : Int) == (i : Int)+1)=false:=zY.mpr hne;have hci : ¬ (c=i):=by omega
 by_cases hc1 : c=i+1
 ·
  subst hc1
  go_enter Try.func63,Try.ntmps63
  go_wp2_with fail
  go_region_law_o (refine Kd.R_delete_step k51 (w0:=w0) w0.heap.size (by rfl) (.tmp 22) (.tmp 25) 29 51 (by rfl) Try.underlying29 hsz (g:=g) (n:=l0.length) (c:=i+1) (k:=i) (m:=l0.length - (i+1)) (c2:=0) (A:=some ⟨g,0,none⟩) jT jAt (by rw [if_pos rfl]) rfl (zo ho0) hil (below_drew hB) hB.size ?_;intro w1 hR1 hb1 hg1)
  have hg2 : w.grownBy w1 (some g):=⟨hg1.os,hg1.tape,hg1.output,hg1.size,hg1.block⟩
  have hcl : ∀ ty,(Builtin.clear_ #[29] ty #[.slice (some ⟨g,(l0.length - 1)*2,none⟩) (l0.length - (l0.length - 1)) (i+1 - (l0.length - 1))]).run Try.prog w1 = .ok (.tuple #[]) (w1.setCells g ((l0.length - 1)*2) (Builtin.zeroCells ((.agg #[(.string ⟨#[]⟩),(.int .i64 0)]) : Value).cells (l0.length - (l0.length - 1))).toList) :=
   fun ty=>F01.run_clear w1 29 51 ty (.agg #[(.string ⟨#[]⟩),(.int .i64 0)]) Try.underlying29 (fun w=>by rfl) (fun q hq=>by
    have hq' : q<2:=hq;obtain rfl|rfl : q=0∨q=1:=by omega
    ·
     rfl
    rfl) g ((l0.length - 1)*2) (l0.length - (l0.length - 1)) (i+1 - (l0.length - 1)) jD (fun q hq=>(F01.there hR1 _ (by have hq' : q<(l0.length - (l0.length - 1))*2:=hq;show _<(i+1)*2;omega)).1) (fun q hq=>(F01.there hR1 _ (by have hq' : q<(l0.length - (l0.length - 1))*2:=hq;show _<(i+1)*2;omega)).2)
  have HT:=zh (F01.R_behind hR1 ((l0.length - 1)*2) (Builtin.zeroCells ((.agg #[(.string ⟨#[]⟩),(.int .i64 0)]) : Value).cells (l0.length - (l0.length - 1))).toList (ye _) (by
   rw [F01.zeros_length];show (l0.length - 1)*2+(l0.length - (l0.length - 1))*2≤(i+1)*2
   omega))
  have hPg : P0_ g:=ho0.1 g rfl;have G2:=zh (yz HT.out.2 (yz hg2 (Kept.refl w (fun k_=>P0_ k_)) (fun k hk => .inl jp)) (fun k hk => .inl jp));have G3:=zh (pw_below_grown hb1 (some g) hb1.size HT.out.2 (fun k hk=>by injection hk with hk;subst hk;exact gb));clear hR1 hb1 hg1 hg2 ho0 hB HGc hC;have hcn : ¬ (i+1=l0.length - 1):=by omega
  have hj1 : (0 : Int)≤((l0.length - 1 : Nat) : Int):=Int.natCast_nonneg _;have hj2 : ((l0.length - 1 : Nat) : Int)≤(l0.length : Int):=by omega
  go_wp2_with fail
  go_ret
  exact ⟨_,rfl,zM HT.out.1 (fun _ hk => .inl hk),G3.out,G2.out⟩
 go_enter Try.func63,Try.ntmps63
 go_wp2_with fail
 go_region_law_o (refine Kd.R_delete_step k51 (w0:=w0) w0.heap.size (by rfl) (.tmp 22) (.tmp 25) 29 51 (by rfl) Try.underlying29 hsz (g:=g) (n:=l0.length) (c:=c) (k:=i) (m:=l0.length - (i+1)) (c2:=c - (i+1)) (A:=some ⟨g,(i+1)*2,none⟩) jT jAt jB2 rfl (zo ho0) hil (below_drew hB) hB.size ?_;intro w1 hR1 hb1 hg1)
 have hg2 : w.grownBy w1 (some g):=⟨hg1.os,hg1.tape,hg1.output,hg1.size,hg1.block⟩
 have hcl : ∀ ty,(Builtin.clear_ #[29] ty #[.slice (some ⟨g,(l0.length - 1)*2,none⟩) (l0.length - (l0.length - 1)) (c - (l0.length - 1))]).run Try.prog w1 = .ok (.tuple #[]) (w1.setCells g ((l0.length - 1)*2) (Builtin.zeroCells ((.agg #[(.string ⟨#[]⟩),(.int .i64 0)]) : Value).cells (l0.length - (l0.length - 1))).toList) :=
  fun ty=>F01.run_clear w1 29 51 ty (.agg #[(.string ⟨#[]⟩),(.int .i64 0)]) Try.underlying29 (fun w=>by rfl) (fun q hq=>by
   have hq' : q<2:=hq;obtain rfl|rfl : q=0∨q=1:=by omega
   ·
    rfl
   rfl) g ((l0.length - 1)*2) (l0.length - (l0.length - 1)) (c - (l0.length - 1)) jD (fun q hq=>(F01.there hR1 _ (by have hq' : q<(l0.length - (l0.length - 1))*2:=hq;show _<c*2;omega)).1) (fun q hq=>(F01.there hR1 _ (by have hq' : q<(l0.length - (l0.length - 1))*2:=hq;show _<c*2;omega)).2)
 have HT:=zh (F01.R_behind hR1 ((l0.length - 1)*2) (Builtin.zeroCells ((.agg #[(.string ⟨#[]⟩),(.int .i64 0)]) : Value).cells (l0.length - (l0.length - 1))).toList (ye _) (by
  rw [F01.zeros_length];show (l0.length - 1)*2+(l0.length - (l0.length - 1))*2≤c*2
  omega))
 have hPg : P0_ g:=ho0.1 g rfl;have G2:=zh (yz HT.out.2 (yz hg2 (Kept.refl w (fun k_=>P0_ k_)) (fun k hk => .inl jp)) (fun k hk => .inl jp));have G3:=zh (pw_below_grown hb1 (some g) hb1.size HT.out.2 (fun k hk=>by injection hk with hk;subst hk;exact gb));clear hR1 hb1 hg1 hg2 ho0 hB HGc hC;have hcn : ¬ (c=l0.length - 1):=by omega
 have hj1 : (0 : Int)≤((l0.length - 1 : Nat) : Int):=Int.natCast_nonneg _;have hj2 : ((l0.length - 1 : Nat) : Int)≤(l0.length : Int):=by omega
 go_wp2_with fail
 go_ret
 exact ⟨_,rfl,zM HT.out.1 (fun _ hk => .inl hk),G3.out,G2.out⟩

theorem Fz.R_behind {α : Type} {d : Kd α} {e base g n cap : Nat} {ok : Nat→Prop} {W : World} {xs : List α}
  (h : d.R e W base ok (.slice (some ⟨g,0,none⟩) n cap) xs) (o : Nat) (seg : List Value) (hno : n*d.sz≤o) (hs : o+seg.length≤cap*d.sz) :
  d.R e (W.setCells g o seg) base ok (.slice (some ⟨g,0,none⟩) n cap) xs∧W.grownBy (W.setCells g o seg) (some g):=by
 obtain ⟨hn,hnc,_⟩:=yh h;obtain ⟨hok,inner,ho,hr⟩:=h;obtain ⟨ho1,ho2⟩:=ho;rcases ho2 with ⟨hv,_⟩|⟨g',cap',cur,hv,hb,hh,hnc',hcm,hcs,ht⟩
 ·
  cases hv
 injection hv with ha _ hc;injection ha with ha;injection ha with hg;subst hg;subst hc;have hfit : o+seg.length≤cur.size:=by rw [hcs];omega
 obtain ⟨cur',h3,h4,h5⟩:=setCells_row seg o W cur hh hfit;obtain ⟨s1,s2,s3,s4⟩:=setCells_same g seg o W;have hfar : ∀ k,k≠g→(W.setCells g o seg).heap[k]? = W.heap[k]?:=fun k hk=>setCells_far seg _ k hk;have hgo : some g=(Value.slice (some ⟨g,0,none⟩) n cap).ownBlock:=by simp [Value.ownBlock]
 refine ⟨⟨hok,inner,⟨ho1,.inr ⟨g,cap,cur',by rw [hn],hb,h3,hnc',hcm,by rw [h4,hcs],?_⟩⟩,?_⟩,
  ⟨s1,s2,s3,by rw [s4];exact ye _,fun k _ hk=>hfar k (fun he=>hk (by rw [he]))⟩⟩
 ·
  rw [← ht]
  apply List.ext_getElem?
  intro q;rw [List.getElem?_take,List.getElem?_take,h5]
  by_cases hq : q<xs.length*d.sz
  ·
   rw [if_pos hq,if_pos hq,seg_get cur.toList seg o (by rw [Array.length_toList];omega) q,if_pos (by rw [← hn] at hq;omega)]
  rw [if_neg hq,if_neg hq]
 exact hr.imp_ (fun x cs hM=>Kd.M_step hM (fun k hk _=>hfar k (fun he=>hk.2 (by rw [he];exact hgo))))
theorem Fz.run_clear {P : Program} (w : World) (t e ty : TypeId) (z : Value) (ht : P.underlying t=some (.slice e)) (hv : ∀ w,(zeroValue e).run P w = .ok z w) (h1 : ∀ i,i<z.cells.size→(z.cells[i]!).oneCell' = true) (b o n c : Nat) (hn : 0<n)
  (hc : ∀ j,j<n*z.cells.size→(w.cell? ⟨b,o+j,none⟩).isSome=true) (hf : ∀ j,j<n*z.cells.size→w.frozen? ⟨b,o+j,none⟩=false) :
  (Builtin.clear_ #[t] ty #[.slice (some ⟨b,o,none⟩) n c]).run P w = .ok (.tuple #[]) (w.setCells b o (Builtin.zeroCells z.cells n).toList):=by
 have hlen : (Builtin.zeroCells z.cells n).toList.length=n*z.cells.size:=by simp [Builtin.zeroCells]
 have hst:=run_storeCells_cells (P:=P) b o (Builtin.zeroCells z.cells n).toList 0 w (by rw [hlen];simpa using hc) (by rw [hlen];simpa using hf) (by
  intro v hv';simp only [Builtin.zeroCells,Array.toList_map,Array.toList_range,List.mem_map,List.mem_range] at hv';obtain ⟨i,hi,rfl⟩:=hv'
  have hz : 0<z.cells.size:=by
   rcases Nat.eq_zero_or_pos z.cells.size with h|h
   ·
    rw [h] at hi;simp at hi
   exact h
  exact h1 _ (Nat.mod_lt _ hz))
 simp only [Nat.add_zero] at hst;obtain ⟨m,rfl⟩ : ∃ m,n=m+1:=⟨n - 1,jD⟩;simp [Builtin.clear_,run_underlying ht,hv,hst]
theorem Fz.zeros_length (z : Array Value) (n : Nat) : (Builtin.zeroCells z n).toList.length=n*z.size:=by simp [Builtin.zeroCells]
theorem Fz.there {α : Type} {d : Kd α} {e base g n cap : Nat} {ok : Nat→Prop} {W : World} {xs : List α} (h : d.R e W base ok (.slice (some ⟨g,0,none⟩) n cap) xs) (j : Nat) (hj : j<cap*d.sz) : (W.cell? ⟨g,j,none⟩).isSome=true∧W.frozen? ⟨g,j,none⟩=false:=by
 obtain ⟨_,inner,⟨_,h⟩,_⟩:=h;rcases h with ⟨hv,_⟩|⟨g',cap',cur,hv,_,hh,_,_,hcs,_⟩
 ·
  cases hv
 injection hv with ha _ hc;injection ha with ha;injection ha with hg;subst hg;subst hc;refine ⟨?_,zA hh j⟩;rw [zz hh,Array.getElem?_eq_getElem (by rw [hcs];exact hj)];rfl
def Fz.f (l0 : List S67) (a1 : Int) (a2 : Int) : Option (List S67):=if 0≤a1 then (if a1<(l0.length : Int) then (if a2=a1+1 then (if l0.length≤4611686018427387904 then (some (l0.eraseIdx a1.toNat)) else none) else none) else none) else none
theorem Fz.S_behind {α : Type} {d : Kd α} {e base g n cap : Nat} {ok : Nat→Prop} {W : World} {xs : List α}
  (h : Kd.S d e W base ok (.slice (some ⟨g,0,none⟩) n cap) xs) (o : Nat) (seg : List Value) (hno : n*d.sz≤o) (hs : o+seg.length≤cap*d.sz) :
  Kd.S d e (W.setCells g o seg) base ok (.slice (some ⟨g,0,none⟩) n cap) xs∧W.grownBy (W.setCells g o seg) (some g):=by
 obtain ⟨f,h⟩:=h;obtain ⟨h1,h2⟩:=Fz.R_behind h o seg hno hs;exact ⟨⟨f,h1⟩,h2⟩
set_option maxHeartbeats 4000000 in
set_option maxRecDepth 100000 in
theorem Fz.calls (P0_ : Nat→Prop) (u9000_ : Value) (l0 : List S67) (a1 : Int) (a2 : Int) (r : List S67) (w0 w : World) (hB : Below w0.heap.size w0 w) (ho0 : Kd.S k67 67 w w0.heap.size P0_ u9000_ l0) (h : Fz.f l0 a1 a2=some r) :
  Calls Try.prog 64 #[u9000_,.int .i64 a1,.int .i64 a2] w fun e w' => ∃ v0_ : Value,e = .returned (v0_)∧Kd.S k67 67 w' w0.heap.size (fun k_=>(P0_ k_∨w.heap.size≤k_)) v0_ r∧Below w0.heap.size w0 w' ∧ Kept w w' (fun k_=>P0_ k_):=by
 unfold Fz.f at h
 by_cases h0 : 0≤a1
 case neg=>rw [if_neg h0] at h;cases h
 rw [if_pos h0] at h
 by_cases h1 : a1<(l0.length : Int)
 case neg=>rw [if_neg h1] at h;cases h
 rw [if_pos h1] at h
 by_cases h2 : a2=a1+1
 case neg=>rw [if_neg h2] at h;cases h
 rw [if_pos h2] at h
 by_cases h3 : l0.length≤4611686018427387904
 case neg=>rw [if_neg h3] at h;cases h
 rw [if_pos h3] at h;obtain rfl:=zU h;clear h;obtain ⟨i,rfl⟩ : ∃ i : Nat,a1=(i : Int):=⟨a1.toNat,jD⟩;subst h2;have hil : i<l0.length:=by omega
 rw [Int.toNat_natCast];obtain ⟨g,c,rfl,gb,gl,cl,HGc⟩:=Kd.S_form ho0 jD;obtain ⟨hn,hnc,hC⟩:=Kd.S_reads' ho0
 have hsz : (Try.prog.info? 67).map (·.size)=some 2:=by have:=info67;cases hq : Try.prog.info? 67 with
  | none=>rw [hq] at this;cases this
  | some i0=>rw [hq] at this;simp at this;simp [this.2.1]
 have hdc : w.drew.heap=w.heap:=rfl;have mixed : Try.prog.follows Departure.mixedOrders=true:=by rfl
 have hi0 : (0 : Int)≤(i : Int):=Int.natCast_nonneg i;have hi1 : (i : Int)≤(l0.length : Int):=by omega
 have hi2 : (i : Int)≤(c : Int):=by omega
 have hi3 : (0 : Int)≤(i : Int)+1:=by omega
 have hi4 : (i : Int)+1≤(l0.length : Int):=by omega
 have hi5 : (l0.length : Int)≤(c : Int):=by omega
 have hi6 : (i : Int)≤(i : Int)+1:=by omega
 have hi7 : (i : Int)+1≤(c : Int):=by omega
 have htn : ((i : Int)+1).toNat=i+1:=by omega
 have hne : ¬ ((i : Int)=(i : Int)+1):=by omega
 have hneb : ((i : Int) == (i : Int)+1)=false:=zY.mpr hne;have hci : ¬ (c=i):=by omega
 by_cases hc1 : c=i+1
 ·
  subst hc1
  go_enter Try.func64,Try.ntmps64
  go_wp2_with fail
  go_region_law_o (refine Kd.S_delete_step k67 (w0:=w0) w0.heap.size (by rfl) (.tmp 22) (.tmp 25) 33 67 (by rfl) Try.underlying33 hsz (g:=g) (n:=l0.length) (c:=i+1) (k:=i) (m:=l0.length - (i+1)) (c2:=0) (A:=some ⟨g,0,none⟩) jT jAt (by rw [if_pos rfl]) rfl (Kd.S_drew ho0) hil (below_drew hB) hB.size ?_;intro w1 hR1 hb1 hg1)
  have hg2 : w.grownBy w1 (some g):=⟨hg1.os,hg1.tape,hg1.output,hg1.size,hg1.block⟩
  have hcl : ∀ ty,(Builtin.clear_ #[33] ty #[.slice (some ⟨g,(l0.length - 1)*2,none⟩) (l0.length - (l0.length - 1)) (i+1 - (l0.length - 1))]).run Try.prog w1 = .ok (.tuple #[]) (w1.setCells g ((l0.length - 1)*2) (Builtin.zeroCells ((.agg #[(.int .i64 0),(.slice none 0 0)]) : Value).cells (l0.length - (l0.length - 1))).toList) :=
   fun ty=>Fz.run_clear w1 33 67 ty (.agg #[(.int .i64 0),(.slice none 0 0)]) Try.underlying33 (fun w=>by rfl) (fun q hq=>by
    have hq' : q<2:=hq;obtain rfl|rfl : q=0∨q=1:=by omega
    ·
     rfl
    rfl) g ((l0.length - 1)*2) (l0.length - (l0.length - 1)) (i+1 - (l0.length - 1)) jD (fun q hq=>(Fz.there (Kd.S_R hR1) _ (by have hq' : q<(l0.length - (l0.length - 1))*2:=hq;show _<(i+1)*2;omega)).1) (fun q hq=>(Fz.there (Kd.S_R hR1) _ (by have hq' : q<(l0.length - (l0.length - 1))*2:=hq;show _<(i+1)*2;omega)).2)
  have HT:=zh (Fz.S_behind hR1 ((l0.length - 1)*2) (Builtin.zeroCells ((.agg #[(.int .i64 0),(.slice none 0 0)]) : Value).cells (l0.length - (l0.length - 1))).toList (ye _) (by
   rw [Fz.zeros_length];show (l0.length - 1)*2+(l0.length - (l0.length - 1))*2≤(i+1)*2
   omega))
  have hPg : P0_ g:=(Kd.S_R ho0).1 g rfl;have G2:=zh (yz HT.out.2 (yz hg2 (Kept.refl w (fun k_=>P0_ k_)) (fun k hk => .inl jp)) (fun k hk => .inl jp));have G3:=zh (pw_below_grown hb1 (some g) hb1.size HT.out.2 (fun k hk=>by injection hk with hk;subst hk;exact gb));clear hR1 hb1 hg1 hg2 ho0 hB HGc hC;have hcn : ¬ (i+1=l0.length - 1):=by omega
  have hj1 : (0 : Int)≤((l0.length - 1 : Nat) : Int):=Int.natCast_nonneg _;have hj2 : ((l0.length - 1 : Nat) : Int)≤(l0.length : Int):=by omega
  go_wp2_with fail
  go_ret
  exact ⟨_,rfl,Kd.S_mono HT.out.1 (fun _ hk => .inl hk),G3.out,G2.out⟩
 go_enter Try.func64,Try.ntmps64
 go_wp2_with fail
 go_region_law_o (refine Kd.S_delete_step k67 (w0:=w0) w0.heap.size (by rfl) (.tmp 22) (.tmp 25) 33 67 (by rfl) Try.underlying33 hsz (g:=g) (n:=l0.length) (c:=c) (k:=i) (m:=l0.length - (i+1)) (c2:=c - (i+1)) (A:=some ⟨g,(i+1)*2,none⟩) jT jAt jB2 rfl (Kd.S_drew ho0) hil (below_drew hB) hB.size ?_;intro w1 hR1 hb1 hg1)
 have hg2 : w.grownBy w1 (some g):=⟨hg1.os,hg1.tape,hg1.output,hg1.size,hg1.block⟩
 have hcl : ∀ ty,(Builtin.clear_ #[33] ty #[.slice (some ⟨g,(l0.length - 1)*2,none⟩) (l0.length - (l0.length - 1)) (c - (l0.length - 1))]).run Try.prog w1 = .ok (.tuple #[]) (w1.setCells g ((l0.length - 1)*2) (Builtin.zeroCells ((.agg #[(.int .i64 0),(.slice none 0 0)]) : Value).cells (l0.length - (l0.length - 1))).toList) :=
  fun ty=>Fz.run_clear w1 33 67 ty (.agg #[(.int .i64 0),(.slice none 0 0)]) Try.underlying33 (fun w=>by rfl) (fun q hq=>by
   have hq' : q<2:=hq;obtain rfl|rfl : q=0∨q=1:=by omega
   ·
    rfl
   rfl) g ((l0.length - 1)*2) (l0.length - (l0.length - 1)) (c - (l0.length - 1)) jD (fun q hq=>(Fz.there (Kd.S_R hR1) _ (by have hq' : q<(l0.length - (l0.length - 1))*2:=hq;show _<c*2;omega)).1) (fun q hq=>(Fz.there (Kd.S_R hR1) _ (by have hq' : q<(l0.length - (l0.length - 1))*2:=hq;show _<c*2;omega)).2)
 have HT:=zh (Fz.S_behind hR1 ((l0.length - 1)*2) (Builtin.zeroCells ((.agg #[(.int .i64 0),(.slice none 0 0)]) : Value).cells (l0.length - (l0.length - 1))).toList (ye _) (by
  rw [Fz.zeros_length];show (l0.length - 1)*2+(l0.length - (l0.length - 1))*2≤c*2
  omega))
 have hPg : P0_ g:=(Kd.S_R ho0).1 g rfl;have G2:=zh (yz HT.out.2 (yz hg2 (Kept.refl w (fun k_=>P0_ k_)) (fun k hk => .inl jp)) (fun k hk => .inl jp));have G3:=zh (pw_below_grown hb1 (some g) hb1.size HT.out.2 (fun k hk=>by injection hk with hk;subst hk;exact gb));clear hR1 hb1 hg1 hg2 ho0 hB HGc hC;have hcn : ¬ (c=l0.length - 1):=by omega
 have hj1 : (0 : Int)≤((l0.length - 1 : Nat) : Int):=Int.natCast_nonneg _;have hj2 : ((l0.length - 1 : Nat) : Int)≤(l0.length : Int):=by omega
 go_wp2_with fail
 go_ret
 exact ⟨_,rfl,Kd.S_mono HT.out.1 (fun _ hk => .inl hk),G3.out,G2.out⟩

def F0e.f (k : Nat) (L : List S67) (nx : Int) (key : ByteArray) (id : Int) : Option (Bool×List S67):=(F00.f k L nx key id).bind fun t=>(if t.2.2=true then (if 0≤t.1 then (if t.1<(L.length : Int) then (if L.length≤4611686018427387904 then ((F01.f (rd_T67 L t.1).f1 t.2.1 (wrap64 (t.2.1+1))).bind fun es=>(if es.length=0∧1<L.length then ((Fz.f (L.set t.1.toNat (⟨(rd_T67 L t.1).f0,es⟩ : S67)) t.1 (wrap64 (t.1+1))).bind fun L2=>some (true,L2)) else some (true,L.set t.1.toNat (⟨(rd_T67 L t.1).f0,es⟩ : S67)))) else none) else none) else none) else some (false,L))
theorem F0e.mono : ∀ a0 a1 a2 a3 k,LeO (F0e.f k a0 a1 a2 a3) (F0e.f (k+1) a0 a1 a2 a3):=by
 intro a0 a1 a2 a3 k;unfold F0e.f;exact zO (F00.mono _ _ _ _ _) (fun _=>zQ _)
set_option maxHeartbeats 8000000 in
set_option maxRecDepth 100000 in
theorem F0e.calls (k : Nat) (gb : Nat) (pv : Value) (L : List S67) (nx : Int) (key : ByteArray) (id : Int) (r : Bool) (L' : List S67) (w0 w : World) (hB : Below w0.heap.size w0 w) (hb : w.heap[gb]? = some (.cells #[pv,.int .i64 nx] 35 (0,0))) (hg : w0.heap.size≤gb) (hS0 : Kd.S k67 67 w w0.heap.size (fun _=>True) pv L) (h : F0e.f k L nx key id=some (r,L')) :
  Calls Try.prog 46 #[.pointer (some ⟨gb,0,none⟩),.agg #[.string key,.int .i64 id]] w fun e w' => ∃ pv',e = .returned (.bool r)∧w'.heap[gb]? = some (.cells #[pv',.int .i64 nx] 35 (0,0))∧Kd.S k67 67 w' w0.heap.size (fun _=>True) pv' L' ∧ Below w0.heap.size w0 w':=by
 have hu35:=Try.underlying35;have hu51:=Try.underlying51;have hu67:=Try.underlying67;have hS:=Kd.S_types hS0 hb jB;clear hS0;obtain ⟨A,c,rfl⟩:=Kd.S_slice hS;unfold F0e.f at h;obtain ⟨⟨pg,at_,th⟩,hF,h⟩:=zT.mp h;simp only at h;obtain ⟨V,hV⟩ : ∃ V,V=w.alloc (.cells #[.string key,.int .i64 id] 51):=⟨_,rfl⟩;have hbV : Below w.heap.size w V:=by rw [hV];exact za (Below.refl _ _) _
 have hVe : V.heap[w.heap.size]? = some (.cells #[.string key,.int .i64 id] 51 (0,0)):=by rw [hV];exact blk_new w _
 obtain ⟨ge,hge⟩ : ∃ ge,ge=w.heap.size:=⟨_,rfl⟩;rw [← hge] at hVe;have hSV:=Kd.S_below hS hbV;have hbb:=zD hb hbV;have hBV:=zC hB hbV;have mixed : Try.prog.follows Departure.mixedOrders=true:=by rfl
 have late : Try.prog.follows Departure.lateStores=true:=by rfl
 have k0 : V.cell? ⟨gb,0,none⟩=some (.slice A L.length c):=(zz hbb 0).trans rfl;have k1 : V.cell? ⟨gb,1,none⟩=some (.int .i64 nx):=(zz hbb 1).trans rfl;have k2 : V.cell? ⟨ge,0,none⟩=some (.string key):=(zz hVe 0).trans rfl;have k3 : V.cell? ⟨ge,1,none⟩=some (.int .i64 id):=(zz hVe 1).trans rfl;have hlb:=yi hbb;have hle:=yi hVe
 have hcell : ∀ W1,Below V.heap.size V W1→(W1.cell? ⟨gb,0,none⟩=some (.slice A L.length c)∧W1.cell? ⟨gb,1,none⟩=some (.int .i64 nx)∧W1.cell? ⟨ge,0,none⟩=some (.string key)∧W1.cell? ⟨ge,1,none⟩=some (.int .i64 id)) :=
  fun W1 hb=>⟨(hb.cell hlb).trans k0,(hb.cell hlb).trans k1,(hb.cell hle).trans k2,(hb.cell hle).trans k3⟩
 have hCV:=fun W1 (hb : Below V.heap.size V W1)=>Kd.C_below (Kd.S_reads' hSV).2.2 hb;have hLc:=(Kd.S_reads' hSV).2.1
 go_enter Try.func46,Try.ntmps46
 go_wp2_with fail
 rw [← hV];simp only [← hge];clear hV hge
 go_region_held3 (fun w' => w'.cell? ⟨gb,0,none⟩=some (.slice A L.length c)∧w'.cell? ⟨gb,1,none⟩=some (.int .i64 nx)∧w'.cell? ⟨ge,0,none⟩=some (.string key)∧w'.cell? ⟨ge,1,none⟩=some (.int .i64 id)) (exact hcell _ jAs) (first|(go_at_call 62;refine (F00.calls k A c L nx key id pg at_ th _ (hCV _ jAs) hLc hF).mono ?_;rintro e w1 ⟨rfl,hb0⟩;have hb1 : Below V.heap.size V w1:=zC jBy hb0))
 have hB1:=zh (zC hBV hb1);have hS1:=zh (Kd.S_below hSV hb1);have hbb1:=zh (zD hbb hb1);clear hbV hVe hSV hbb hBV k0 k1 k2 k3 hlb hle hcell hCV hb0 hb1 hF hS hB hb
 cases th with
 | false =>
  rw [if_neg jB] at h;simp only [Option.some.injEq,Prod.mk.injEq] at h;obtain ⟨rfl,rfl⟩:=h
  go_wp2_with fail
  go_ret
  exact ⟨_,rfl,hbb1.out,Kd.S_mono hS1.out (fun _ _=>trivial),hB1.out⟩
 | true =>
  rw [if_pos rfl] at h
  by_cases hp0 : 0≤pg
  case neg=>rw [if_neg hp0] at h;cases h
  rw [if_pos hp0] at h
  by_cases hp1 : pg<(L.length : Int)
  case neg=>rw [if_neg hp1] at h;cases h
  rw [if_pos hp1] at h
  by_cases hLm : L.length≤4611686018427387904
  case neg=>rw [if_neg hLm] at h;cases h
  rw [if_pos hLm] at h;obtain ⟨es,hE,h⟩:=zT.mp h;obtain ⟨g,co,eo,gb2,gl,cl,HGc⟩:=Kd.S_form hS1.out jD;injection eo with ea _ ec;subst ea;subst ec;obtain ⟨oki,ce,hcl,hM,hcc,hfr,hoki,hH⟩:=Kd.S_elem hS1.out z67 pg hp0 hp1;have er : L.getD pg.toNat z67=rd_T67 L pg:=rfl;rw [er] at hM;obtain ⟨ve,rfl,hRe⟩:=k67_openM hM;obtain ⟨Ae,ke,rfl⟩:=yk hRe
  have hgb : gb≠g:=fun e9=>by
   have h9:=hbb1.out;rw [e9] at h9;rw [h9] at HGc;injection HGc with HGc;injection HGc with _ HGc;exact absurd HGc jB
  have q0 : w1.cell? ⟨gb,0,none⟩=some (.slice (some ⟨g,0,none⟩) L.length c):=(zz hbb1.out 0).trans rfl;have q1 : w1.cell? ⟨gb,1,none⟩=some (.int .i64 nx):=(zz hbb1.out 1).trans rfl;have q2 : w1.cell? ⟨g,pg.toNat*2+1,none⟩=some (.slice Ae (rd_T67 L pg).f1.length ke):=hcc 1 _ rfl;have hlg : gb<w1.heap.size:=yi hbb1.out
  have hcell : ∀ W1,Kept w1 W1 oki→(W1.cell? ⟨gb,0,none⟩=some (.slice (some ⟨g,0,none⟩) L.length c)∧W1.cell? ⟨gb,1,none⟩=some (.int .i64 nx)∧W1.cell? ⟨g,pg.toNat*2+1,none⟩=some (.slice Ae (rd_T67 L pg).f1.length ke)) :=
   fun W1 hk=>by
    have e1 : W1.heap[gb]? = w1.heap[gb]?:=hk.2 gb hlg (fun h9=>(hoki gb h9).1.2 rfl);have e2 : W1.heap[g]? = w1.heap[g]?:=hk.2 g gl (fun h9=>(hoki g h9).2 rfl);exact ⟨(World.cell?_of_block e1).trans q0,(World.cell?_of_block e1).trans q1,(World.cell?_of_block e2).trans q2⟩
  obtain ⟨ha0,ha1,hw⟩ : 0≤at_∧at_<((rd_T67 L pg).f1.length : Int)∧wrap64 (at_+1)=at_+1:=by
   have h9:=hE;unfold F01.f at h9
   by_cases c1 : 0≤at_
   case neg=>rw [if_neg c1] at h9;cases h9
   rw [if_pos c1] at h9
   by_cases c2 : at_<((rd_T67 L pg).f1.length : Int)
   case neg=>rw [if_neg c2] at h9;cases h9
   rw [if_pos c2] at h9
   by_cases c3 : wrap64 (at_+1)=at_+1
   case neg=>rw [if_neg c3] at h9;cases h9
   exact ⟨c1,c2,c3⟩
  have hwi : IntKind.i64.wrap (at_+1)=at_+1:=(zG _).trans hw;rw [hw] at hE;have hgo : ¬ oki g:=fun h9=>(hoki g h9).2 rfl;have hpi0 : (0≤pg)=True:=eq_true hp0;have hpi1 : (pg<(L.length : Int))=True:=eq_true hp1;have HH:=zh (Kd.H_widen hH);have HRe:=zh hRe;have HOK:=zh hoki;have HF:=zh hfr;clear hM hcl hcc hoki hH hRe hfr er q0 q1 q2
  go_wp2_with fail
  refine start_ (n:=20) (S:=fun w' => w'.cell? ⟨gb,0,none⟩=some (.slice (some ⟨g,0,none⟩) L.length c)∧w'.cell? ⟨gb,1,none⟩=some (.int .i64 nx)∧w'.cell? ⟨g,pg.toNat*2+1,none⟩=some (.slice Ae (rd_T67 L pg).f1.length ke)) (ds:=[19]) (bm_ 0 20) jA rfl rfl ⟨(hcell _ (zq (Kept.refl w1 oki))).1,(hcell _ (zq (Kept.refl w1 oki))).2.1,(hcell _ (zq (Kept.refl w1 oki))).2.2⟩ (fun hHeld=>?_);refine pure_ (i:=0) (N:=some 19) (v:=?_) (a':=?_) (bm_ 1 20) rfl rfl jA (fun _ _ _ h=>h) (Or.inl ⟨by rfl,?_⟩) ?_ ?_;rotate_left;exact jb;rotate_left;exact jc
  refine pure_ (i:=1) (N:=some 20) (v:=?_) (a':=?_) (bm_ 2 20) rfl rfl jA (fun _ _ _ h=>h) (Or.inl ⟨by rfl,?_⟩) ?_ ?_;rotate_left;exact jb;rotate_left;exact jc
  refine pure_ (i:=2) (N:=some 21) (v:=?_) (a':=?_) (bm_ 3 20) rfl rfl jA (fun _ _ _ h=>h) (Or.inl ⟨by rfl,?_⟩) ?_ ?_;rotate_left;exact jb;rotate_left;exact jc
  refine pure_ (i:=4) (N:=some 23) (v:=?_) (a':=?_) #[true,true,true,false,true,false,false,false,false,false,false,false,false,false,false,false,false,false,false,false] rfl rfl jA (fun _ _ _ h=>h) (Or.inl ⟨by rfl,?_⟩) ?_ ?_;rotate_left;exact jb;rotate_left;exact jc
  refine pure_ (i:=5) (N:=some 24) (v:=?_) (a':=?_) #[true,true,true,false,true,true,false,false,false,false,false,false,false,false,false,false,false,false,false,false] rfl rfl jA (fun _ _ _ h=>h) (Or.inl ⟨by rfl,?_⟩) ?_ ?_;rotate_left;exact jb;rotate_left;exact jc
  refine pure_ (i:=6) (N:=some 25) (v:=?_) (a':=?_) #[true,true,true,false,true,true,true,false,false,false,false,false,false,false,false,false,false,false,false,false] rfl rfl jA (fun _ _ _ h=>h) (Or.inl ⟨by rfl,?_⟩) ?_ ?_;rotate_left;exact jb;rotate_left;exact jc
  refine pure_ (i:=7) (N:=some 26) (v:=?_) (a':=?_) #[true,true,true,false,true,true,true,true,false,false,false,false,false,false,false,false,false,false,false,false] rfl rfl jA (fun _ _ _ h=>h) (Or.inl ⟨by rfl,?_⟩) ?_ ?_;rotate_left;exact jb;rotate_left;exact jc
  refine pure_ (i:=9) (N:=some 28) (v:=?_) (a':=?_) #[true,true,true,false,true,true,true,true,false,true,false,false,false,false,false,false,false,false,false,false] rfl rfl jA (fun _ _ _ h=>h) (Or.inl ⟨by rfl,?_⟩) ?_ ?_;rotate_left;exact jb;rotate_left;exact jc
  refine pure_ (i:=13) (N:=some 32) (v:=?_) (a':=?_) #[true,true,true,false,true,true,true,true,false,true,false,false,false,true,false,false,false,false,false,false] rfl rfl jA (fun _ _ _ h=>h) (Or.inl ⟨by rfl,?_⟩) ?_ ?_;rotate_left;exact jb;rotate_left;exact jc
  refine pure_ (i:=14) (N:=some 33) (v:=?_) (a':=?_) #[true,true,true,false,true,true,true,true,false,true,false,false,false,true,true,false,false,false,false,false] rfl rfl jA (fun _ _ _ h=>h) (Or.inl ⟨by rfl,?_⟩) ?_ ?_;rotate_left;exact jb;rotate_left;exact jc
  refine pure_ (i:=15) (N:=some 34) (v:=?_) (a':=?_) #[true,true,true,false,true,true,true,true,false,true,false,false,false,true,true,true,false,false,false,false] rfl rfl jA (fun _ _ _ h=>h) (Or.inl ⟨by rfl,?_⟩) ?_ ?_;rotate_left;exact jb;rotate_left;exact jc
  refine take_ (i:=3) (N:=some 22) (v:=?_) (a':=?_) #[true,true,true,true,true,true,true,true,false,true,false,false,false,true,true,true,false,false,false,false] rfl rfl jA (fun _ _ _ h=>h) (Or.inl ⟨by rfl,?_⟩) hHeld ?_ ?_;rotate_left
  ·
   rintro w' ⟨s0,s1,s2⟩
   go_simp
   with_reducible rfl
  rotate_left
  exact jc
  refine take_ (i:=8) (N:=some 27) (v:=?_) (a':=?_) #[true,true,true,true,true,true,true,true,true,true,false,false,false,true,true,true,false,false,false,false] rfl rfl jA (fun _ _ _ h=>h) (Or.inl ⟨by rfl,?_⟩) hHeld ?_ ?_;rotate_left
  ·
   rintro w' ⟨s0,s1,s2⟩
   go_simp
   with_reducible rfl
  rotate_left
  exact jc
  refine pure_ (i:=10) (N:=some 29) (v:=?_) (a':=?_) #[true,true,true,true,true,true,true,true,true,true,true,false,false,true,true,true,false,false,false,false] rfl rfl jA (fun _ _ _ h=>h) (Or.inl ⟨by rfl,?_⟩) ?_ ?_;rotate_left;exact jb;rotate_left;exact jc
  refine pure_ (i:=11) (N:=some 30) (v:=?_) (a':=?_) #[true,true,true,true,true,true,true,true,true,true,true,true,false,true,true,true,false,false,false,false] rfl rfl jA (fun _ _ _ h=>h) (Or.inl ⟨by rfl,?_⟩) ?_ ?_;rotate_left;exact jb;rotate_left;exact jc
  refine take_ (i:=12) (N:=some 31) (v:=?_) (a':=?_) (bm_ 16 20) rfl rfl jA (fun _ _ _ h=>h) (Or.inl ⟨by rfl,?_⟩) hHeld ?_ ?_;rotate_left
  ·
   rintro w' ⟨s0,s1,s2⟩
   go_simp
   with_reducible rfl
  rotate_left
  exact jc
  refine one_ (i:=16) (N:=some 35) (bm_ 17 20) rfl rfl jA jB (fun K hK=>?_);refine goes_ Try.func63 jA rfl #[.slice Ae (rd_T67 L pg).f1.length ke,.int .i64 at_,.int .i64 (at_+1)] (by rfl) rfl rfl jI ?_
  with_reducible refine (F01.calls oki _ (rd_T67 L pg).f1 at_ (at_+1) es w0 _ (zc hB1.out) (zo HRe.out) hE).mono ?_
  rintro e w2 ⟨v1,rfl,hR2,hB2,hK0⟩;refine ⟨_,rfl,?_⟩;obtain ⟨A1,k1,rfl⟩:=yk hR2;have hK2 : Kept w1 w2 oki:=hK0;have kc:=(hcell w2 hK2).2.2;have kf : w2.frozen? ⟨g,pg.toNat*2+1,none⟩=false:=(World.frozen?_of_block (hK2.2 g gl hgo)).trans (HF.out 1);refine hK.out _ _ ⟨(hcell w2 hK2).1,(hcell w2 hK2).2.1,(hcell w2 hK2).2.2⟩ (fun hHeld=>?_);clear hK K;refine norm_ (a':=?_) ?_ ?_;rotate_left
  ·
   show Act.put _ (some 35) _=_
   simp only [Act.put,zi,zj,zk,zG,zH]
   rfl
  refine pure_ (i:=17) (N:=some 36) (v:=?_) (a':=?_) (bm_ 18 20) rfl rfl jA (fun _ _ _ h=>h) (Or.inl ⟨by rfl,?_⟩) ?_ ?_;rotate_left;exact jb;rotate_left;exact jc
  refine pure_ (i:=18) (N:=some 37) (v:=?_) (a':=?_) (bm_ 19 20) rfl rfl jA (fun _ _ _ h=>h) (Or.inl ⟨by rfl,?_⟩) ?_ ?_;rotate_left;exact jb;rotate_left;exact jc
  refine last_ (i:=19) (N:=none) (bm_ 20 20) rfl rfl jA jB (fun K hK=>?_);refine skip_ (w1:=?_) (by rfl) rfl ?_ ?_;rotate_left
  ·
   go_simp
   rfl
  refine hK.out _ _ ?_;clear hK K;refine done_ jA ?_
  obtain ⟨hH2,hG2⟩ : Kd.H k67 67 (w2.setCell ⟨g,pg.toNat*2+1,none⟩ (.slice A1 es.length k1)) w0.heap.size (fun k=>True∧k≠gb) (.slice (some ⟨g,0,none⟩) L.length c) L pg (fun k=>oki k∨(True∧k≠gb)∧w1.heap.size≤k) [.int .i64 (rd_T67 L pg).f0,.slice A1 es.length k1]∧w2.grownBy (w2.setCell ⟨g,pg.toNat*2+1,none⟩ (.slice A1 es.length k1)) (some g) :=
   Kd.H_seg (Kd.H_kept HH.out hK2 (fun k _ hn hk=>hn (.inl hk))) hp0 hp1 (seg:=[.slice A1 es.length k1]) (j:=1) (show 1+1≤2 from by decide) (by simp [Value.oneCell'])
  have hR3:=Kd.R_grown hR2 hG2 (fun k hk he=>by
   injection he with he;rcases hk with hk|hk
   ·
    exact (HOK.out k hk).2 he
   rw [he] at hk;exact absurd gl (Nat.not_lt.2 hk))
  have HS3:=zh (Kd.H_back hH2 (x':=(⟨(rd_T67 L pg).f0,es⟩ : S67)) (k67_mkM _ _ _ ⟨(rd_T67 L pg).f0,es⟩ hR3) (fun k hk=>by
   rcases hk with hk|hk
   ·
    exact .inl hk
   exact .inr ⟨⟨trivial,fun e9=>by rw [e9] at hk;exact absurd hlg (Nat.not_lt.2 hk)⟩,hk⟩))
  have HB3:=zh (pw_below_grown hB2 (some g) hB2.size hG2 (fun k hk=>by injection hk with hk;subst hk;exact gb2));have hbb2 : w2.heap[gb]? = some (.cells #[.slice (some ⟨g,0,none⟩) L.length c,.int .i64 nx] 35 (0,0)):=(hK2.2 gb hlg (fun h9=>(HOK.out gb h9).1.2 rfl)).trans hbb1.out;have hbb3 : (w2.setCell ⟨g,pg.toNat*2+1,none⟩ (.slice A1 es.length k1)).heap[gb]? = some (.cells #[.slice (some ⟨g,0,none⟩) L.length c,.int .i64 nx] 35 (0,0)):=(Below.heap_setCell w2 ⟨g,_,none⟩ _ gb hgb).trans hbb2
  have q3 : (w2.setCell ⟨g,pg.toNat*2+1,none⟩ (.slice A1 es.length k1)).cell? ⟨g,pg.toNat*2+1,none⟩=some (.slice A1 es.length k1):=by
   have e2 : w2.heap[g]? = some (.cells cl 67 (0,0)):=(hK2.2 g gl hgo).trans HGc;have h3:=kc;rw [zz e2] at h3;rw [zz (blk_set e2 _ _)];have h4 : pg.toNat*2+1<cl.size:=(Array.getElem?_eq_some_iff.1 h3).1;simp [h4]
  generalize hW3 : w2.setCell ⟨g,pg.toNat*2+1,none⟩ (.slice A1 es.length k1)=W3 at *;have HZ3:=zh hbb3;have hlg3 : gb<W3.heap.size:=yi hbb3;have q0:=(zz hbb3 0).trans (show _=some (.slice (some ⟨g,0,none⟩) L.length c) from rfl);have q1:=(zz hbb3 1).trans (show _=some (.int .i64 nx) from rfl);have f0:=zA hbb3 0;have f1:=zA hbb3 1;clear hH2 hG2 hR3 hR2 hB2 hK0 hK2 kc kf hbb2 hbb3 hW3 hcell HGc HH HRe HOK HF hgo gl hlg hgb hLm
  by_cases hn : es.length=0∧1<L.length
  ·
   rw [if_pos hn] at h
   obtain ⟨L2,hD,h⟩:=zT.mp h;simp only [Option.some.injEq,Prod.mk.injEq] at h;obtain ⟨rfl,rfl⟩:=h;obtain ⟨hn0,hn1⟩:=hn
   obtain ⟨hwp,_⟩ : wrap64 (pg+1)=pg+1∧True:=by
    have h9:=hD;unfold Fz.f at h9;rw [if_pos hp0] at h9
    by_cases c2 : pg<((L.set pg.toNat (⟨(rd_T67 L pg).f0,es⟩ : S67)).length : Int)
    case neg=>rw [if_neg c2] at h9;cases h9
    rw [if_pos c2] at h9
    by_cases c3 : wrap64 (pg+1)=pg+1
    case neg=>rw [if_neg c3] at h9;cases h9
    exact ⟨c3,trivial⟩
   have hwpi : IntKind.i64.wrap (pg+1)=pg+1:=(zG _).trans hwp;rw [hwp] at hD;have hes : ((es.length : Int) == 0)=true:=ya.mpr jD;have hes2 : (es.length == 0)=true:=ya.mpr hn0;have hl1 : decide ((1 : Int)<(L.length : Int))=true:=decide_eq_true jD;have hl2 : decide (1<L.length)=true:=decide_eq_true hn1;have hSL : Kd.S k67 67 W3 w0.heap.size (fun k=>True∧k≠gb) (.slice (some ⟨g,0,none⟩) L.length c) (L.set pg.toNat (⟨(rd_T67 L pg).f0,es⟩ : S67)):=HS3.out;clear hn0 hn1
   go_wp2_with fail
   go_at_call 64
   refine (Fz.calls (fun k=>True∧k≠gb) _ (L.set pg.toNat (⟨(rd_T67 L pg).f0,es⟩ : S67)) pg (pg+1) L2 w0 _ HB3.out hSL hD).mono ?_;rintro e w4 ⟨v4,rfl,hS4,hB4,hK4⟩;have hbb4:=(hK4.2 gb hlg3 (fun h9=>h9.2 rfl)).trans HZ3.out
   have HS4:=zh (Kd.S_far (p:=⟨gb,0,none⟩) hS4 (fun k hk=>by
    rcases hk with hk|hk
    ·
     exact hk.2
    intro e9;rw [e9] at hk;exact absurd hlg3 (Nat.not_lt.2 hk)) v4)
   have HB4:=zh (show Below w0.heap.size w0 (w4.setCell ⟨gb,0,none⟩ v4) from zd hB4 hg);have HZ4:=zh (blk_set hbb4 0 v4);obtain ⟨A4,c4,rfl⟩:=Kd.S_slice hS4;have q4:=(zz hbb4 0).trans (show _=some (.slice (some ⟨g,0,none⟩) L.length c) from rfl);have f4:=zA hbb4 0;clear q0 q1 f0 f1 q3 hS4 hB4 hK4 hbb4
   go_wp2_with fail
   go_ret
   exact ⟨_,rfl,HZ4.out,Kd.S_mono HS4.out (fun _ _=>trivial),HB4.out⟩
  rw [if_neg hn] at h;simp only [Option.some.injEq,Prod.mk.injEq] at h;obtain ⟨rfl,rfl⟩:=h;have hSL : Kd.S k67 67 W3 w0.heap.size (fun k=>True∧k≠gb) (.slice (some ⟨g,0,none⟩) L.length c) (L.set pg.toNat (⟨(rd_T67 L pg).f0,es⟩ : S67)):=HS3.out
  by_cases hn0 : es.length=0
  ·
   have hl1 : decide ((1 : Int)<(L.length : Int))=false:=decide_eq_false jD
   have hl2 : decide (1<L.length)=false:=decide_eq_false jD;have hes : ((es.length : Int) == 0)=true:=ya.mpr jD;have hes2 : (es.length == 0)=true:=ya.mpr hn0;clear hn0 hn
   go_wp2_with fail
   go_ret
   exact ⟨_,rfl,HZ3.out,Kd.S_mono hSL (fun _ _=>trivial),HB3.out⟩
  have hes : ((es.length : Int) == 0)=false:=zY.mpr jD;have hes2 : (es.length == 0)=false:=zY.mpr hn0;clear hn0 hn
  go_wp2_with fail
  go_ret
  exact ⟨_,rfl,HZ3.out,Kd.S_mono hSL (fun _ _=>trivial),HB3.out⟩

def F0g.f (k : Nat) (l0_0 : List (S67)) (a0_1 : Int) (a1_0 : ByteArray) (a1_1 : Int) : Option ((List (S67))×Int×Int):=(F1.f k l0_0 a0_1).bind fun t=>(if t=true then ((F0f.f a1_0 a1_1).bind fun u=>(if u=true then ((Fa.f k l0_0 a0_1).bind fun c=>((F0e.f k c.1 c.2 a1_0 a1_1).bind fun d=>(if d.1=true then ((Fa.f k d.2 c.2).bind fun z=>some (z.1,z.2,0)) else (some (d.2,c.2,5))))) else (some (([] : List S67),0,1)))) else (some (([] : List S67),0,1)))
theorem F0g.mono : ∀ a0 a1 a2 a3 k,LeO (F0g.f k a0 a1 a2 a3) (F0g.f (k+1) a0 a1 a2 a3):=by
 intro a0 a1 a2 a3 k;unfold F0g.f;refine zO (F1.mono _ _ _) (fun _=>zP (zO (zQ _) (fun _=>zP (zO (Fa.mono _ _ _) (fun _=>zO (F0e.mono _ _ _ _ _) (fun _=>zP (zO (Fa.mono _ _ _) (fun _=>zQ _)) (zQ _)))) (zQ _))) (zQ _))
theorem F0g.three (w : World) (o0 o1 o2 : Obj) : (((w.alloc o0).alloc o1).alloc o2).heap[w.heap.size]? = some o0∧(((w.alloc o0).alloc o1).alloc o2).heap[w.heap.size+1]? = some o1∧(((w.alloc o0).alloc o1).alloc o2).heap[w.heap.size+1+1]? = some o2∧Below w.heap.size w (((w.alloc o0).alloc o1).alloc o2):=by
 refine ⟨zg (zg (blk_new w _) _) _,zg ?_ _,?_,za (za (za (Below.refl _ _) _) _) _⟩
 ·
  have:=blk_new (w.alloc o0) o1
  simpa using this
 have:=blk_new ((w.alloc o0).alloc o1) o2
 simpa using this
set_option maxHeartbeats 8000000 in
set_option maxRecDepth 100000 in
theorem F0g.calls (k : Nat) (A0_0 : Option Addr) (c0_0 : Nat) (l0_0 : List (S67)) (a0_1 : Int) (a1_0 : ByteArray) (a1_1 : Int) (r1 : List (S67)) (r2 : Int) (r3 : Int) (w : World) (hr0_0 : Kd.C k67 w A0_0 l0_0.length l0_0) (hc0_0 : l0_0.length≤c0_0) (h : F0g.f k l0_0 a0_1 a1_0 a1_1=some (r1,r2,r3)) :
  Calls Try.prog 23 #[.agg #[.slice A0_0 l0_0.length c0_0,.int .i64 a0_1],.agg #[.string a1_0,.int .i64 a1_1]] w fun e w' => ∃ v0_ : Value,e = .returned (.tuple #[.agg #[v0_,.int .i64 r2],.int .i64 r3])∧Kd.S k67 67 w' w.heap.size (fun _=>True) v0_ r1∧Below w.heap.size w w':=by
 have hu35:=Try.underlying35;have hu51:=Try.underlying51;unfold F0g.f at h;obtain ⟨t,hT,h⟩:=zT.mp h;obtain ⟨V,hV⟩ : ∃ V,V=((w.alloc (.cells #[.slice A0_0 l0_0.length c0_0,.int .i64 a0_1] 35)).alloc (.cells #[.string a1_0,.int .i64 a1_1] 51)).alloc (.cells #[.slice none 0 0,.int .i64 0] 35):=⟨_,rfl⟩;obtain ⟨h0,h1,h2,hBV⟩:=F0g.three w (.cells #[.slice A0_0 l0_0.length c0_0,.int .i64 a0_1] 35) (.cells #[.string a1_0,.int .i64 a1_1] 51) (.cells #[.slice none 0 0,.int .i64 0] 35);rw [← hV] at h0 h1 h2 hBV;obtain ⟨g0,hg0⟩ : ∃ g,g=w.heap.size:=⟨_,rfl⟩;rw [← hg0] at h0 h1 h2;obtain ⟨g1,hg1⟩ : ∃ g,g=g0+1:=⟨_,rfl⟩;rw [← hg1] at h1 h2;obtain ⟨g2,hg2⟩ : ∃ g,g=g1+1:=⟨_,rfl⟩;rw [← hg2] at h2;have hbase : w.heap.size≤g2:=by rw [hg2,hg1,hg0,Nat.add_assoc];exact Nat.le_add_right _ _
 have H0 : Aside0 (V.heap[g0]? = some (.cells #[.slice A0_0 l0_0.length c0_0,.int .i64 a0_1] 35 (0,0))):=⟨h0⟩;have H1 : Aside0 (V.heap[g1]? = some (.cells #[.string a1_0,.int .i64 a1_1] 51 (0,0))):=⟨h1⟩;have H2 : Aside0 (V.heap[g2]? = some (.cells #[.slice none 0 0,.int .i64 0] 35 (0,0))):=⟨h2⟩;have HB:=zh hBV;have HC:=zh (Kd.C_below hr0_0 hBV);clear h0 h1 h2 hBV hr0_0
 have hcells : ∀ W1,Below V.heap.size V W1→(W1.cell? ⟨g0,0,none⟩=some (.slice A0_0 l0_0.length c0_0)∧W1.cell? ⟨g0,1,none⟩=some (.int .i64 a0_1)∧W1.cell? ⟨g1,0,none⟩=some (.string a1_0)∧W1.cell? ⟨g1,1,none⟩=some (.int .i64 a1_1)) :=
  fun W1 hb=>⟨(zz (zD H0.out hb) 0).trans rfl,(zz (zD H0.out hb) 1).trans rfl,(zz (zD H1.out hb) 0).trans rfl,(zz (zD H1.out hb) 1).trans rfl⟩
 obtain ⟨k0,k1,-,-⟩:=hcells V (Below.refl _ _);have HCE:=zh hcells;clear hcells
 -- an early answer
 have early : ∀ W1,Below V.heap.size V W1→W1.heap[g2]? = some (.cells #[.slice none 0 0,.int .i64 0] 35 (0,0))∧Below w.heap.size w W1:=fun W1 hb=>⟨zD H2.out hb,zC HB.out hb⟩;have HEA:=zh early;clear early
 go_enter Try.func23,Try.ntmps23
 go_wp2_with fail
 rw [← hV];simp only [← hg0];simp only [← hg1];simp only [← hg2];clear hV hg0 hg1 hg2
 go_at_call 31
 refine (F1.calls k A0_0 c0_0 l0_0 a0_1 t V HC.out hc0_0 hT).mono ?_;rintro e w1 ⟨rfl,hb1⟩;have HB1:=zh hb1;clear hb1 hT k0 k1
 cases t with
 | false =>
  rw [if_neg jB] at h;simp only [Option.some.injEq,Prod.mk.injEq] at h;obtain ⟨rfl,rfl,rfl⟩:=h;obtain ⟨hz,hbz⟩:=HEA.out w1 HB1.out;have q0:=zz hz 0;have q1:=zz hz 1;have f0:=zA hz 0;have f1:=zA hz 1
  go_wp2_with fail
  refine bodyPost_ret (results_ct rfl _ _ g2 35 #[.slice none 0 0,.int .i64 0] (0,0) _ rfl (blk_set (blk_set hz 0 (.slice none 0 0)) 1 (.int .i64 0)) hu35 rfl jA) rfl ?_;exact ⟨_,rfl,Kd.S_nil _ _ _ _ _,zd (zd hbz hbase) hbase⟩
 | true =>
  rw [if_pos rfl] at h;obtain ⟨u,hU,h⟩:=zT.mp h;obtain ⟨-,-,k2,k3⟩:=HCE.out w1 HB1.out
  go_wp2_with fail
  go_at_call 44
  refine (F0f.calls a1_0 a1_1 u w1 hU).mono ?_;rintro e w2 ⟨rfl,hb2⟩;have HB2:=zh (zC HB1.out hb2);clear hb2 hU k2 k3 HB1
  cases u with
  | false =>
   rw [if_neg jB] at h;simp only [Option.some.injEq,Prod.mk.injEq] at h;obtain ⟨rfl,rfl,rfl⟩:=h;obtain ⟨hz,hbz⟩:=HEA.out w2 HB2.out;have q0:=zz hz 0;have q1:=zz hz 1;have f0:=zA hz 0;have f1:=zA hz 1
   go_wp2_with fail
   refine bodyPost_ret (results_ct rfl _ _ g2 35 #[.slice none 0 0,.int .i64 0] (0,0) _ rfl (blk_set (blk_set hz 0 (.slice none 0 0)) 1 (.int .i64 0)) hu35 rfl jA) rfl ?_;exact ⟨_,rfl,Kd.S_nil _ _ _ _ _,zd (zd hbz hbase) hbase⟩
  | true =>
   rw [if_pos rfl] at h;obtain ⟨⟨L1,n1⟩,hK,h⟩:=zT.mp h;obtain ⟨⟨d1,L2⟩,hD,h⟩:=zT.mp h;simp only at hD h;obtain ⟨k0,k1,-,-⟩:=HCE.out w2 HB2.out
   go_wp2_with fail
   go_at_call 45
   refine (Fa.calls k A0_0 c0_0 l0_0 a0_1 L1 n1 w2 (Kd.C_below HC.out HB2.out) hc0_0 hK).mono ?_;rintro e w3 ⟨v3,rfl,hS3,hb3⟩;have HB3:=zh hb3;have HS3:=zh hS3;obtain ⟨A3,c3,rfl⟩:=Kd.S_slice hS3;clear hS3 hb3 hK k0 k1;obtain ⟨-,-,k2,k3⟩:=HCE.out (w3.alloc (.cells #[.slice A3 L1.length c3,.int .i64 n1] 35)) (za (zC HB2.out HB3.out) _)
   go_wp2_with fail
   go_at_call 46
   refine (F0e.calls k w3.heap.size (.slice A3 L1.length c3) L1 n1 a1_0 a1_1 d1 L2 w2 _ (za HB3.out _) (blk_new w3 _) HB3.out.size (Kd.S_alloc HS3.out _) hD).mono ?_;rintro e w5 ⟨pv,rfl,hb5,hS5,hB5⟩;have hz : w5.heap[g2]? = some (.cells #[.slice none 0 0,.int .i64 0] 35 (0,0)):=zD (HEA.out w2 HB2.out).1 hB5;have hbz : Below w.heap.size w w5:=zC (HEA.out w2 HB2.out).2 hB5;have hle : w.heap.size≤w2.heap.size:=(HEA.out w2 HB2.out).2.size;obtain ⟨A5,c5,rfl⟩:=Kd.S_slice hS5;have HS5:=zh (Kd.S_lower hS5 hle);have HZ:=zh hz;have HBZ:=zh hbz;have p0:=zz hb5 0;have p1:=zz hb5 1;clear hS5 hB5 hD hb5 k2 k3 HS3 HB3 hz hbz
   cases d1 with
   | false =>
    rw [if_neg jB] at h;simp only [Option.some.injEq,Prod.mk.injEq] at h;obtain ⟨rfl,rfl,rfl⟩:=h;have q0:=zz HZ.out 0;have q1:=zz HZ.out 1;have f0:=zA HZ.out 0;have f1:=zA HZ.out 1
    go_wp2_with fail
    refine bodyPost_ret (results_ct rfl _ _ g2 35 #[.slice A5 L2.length c5,.int .i64 n1] (0,0) _ rfl (blk_set (blk_set HZ.out 0 (.slice A5 L2.length c5)) 1 (.int .i64 n1)) hu35 rfl jA) rfl ?_;exact ⟨_,rfl,Kd.S_set (Kd.S_set HS5.out HZ.out jB 0 _) (blk_set HZ.out 0 _) jB 1 _,zd (zd HBZ.out hbase) hbase⟩
   | true =>
    rw [if_pos rfl] at h;obtain ⟨⟨L3,n3⟩,hK2,h⟩:=zT.mp h;simp only [Option.some.injEq,Prod.mk.injEq] at h;obtain ⟨rfl,rfl,rfl⟩:=h
    go_wp2_with fail
    go_at_call 45
    refine (Fa.calls k A5 c5 L2 n1 L3 n3 w5 (Kd.S_reads' HS5.out).2.2 (Kd.S_reads' HS5.out).2.1 hK2).mono ?_;rintro e w6 ⟨v6,rfl,hS6,hb6⟩;have HZ6:=zh (zD HZ.out hb6);have HB6:=zh (zC HBZ.out hb6);have HS6:=zh (Kd.S_lower hS6 HBZ.out.size);obtain ⟨A6,c6,rfl⟩:=Kd.S_slice hS6;clear hS6 hb6 hK2 p0 p1 HS5 HZ HBZ;have q0:=zz HZ6.out 0;have q1:=zz HZ6.out 1;have f0:=zA HZ6.out 0;have f1:=zA HZ6.out 1
    go_wp2_with fail
    refine bodyPost_ret (results_ct rfl _ _ g2 35 #[.slice A6 L3.length c6,.int .i64 n3] (0,0) _ rfl (blk_set (blk_set HZ6.out 0 (.slice A6 L3.length c6)) 1 (.int .i64 n3)) hu35 rfl jA) rfl ?_;exact ⟨_,rfl,Kd.S_set (Kd.S_set HS6.out HZ6.out jB 0 _) (blk_set HZ6.out 0 _) jB 1 _,zd (zd HB6.out hbase) hbase⟩

end Go.Proofs.Ytamikhmpfmgofaa.Q
end
section
namespace Go.Proofs.Ytamikhmpfmgofaa.Pure
open Go Go.RowKit Go.Proofs.Ytamikhmpfmgofaa.Q Go.Proofs.YtamikhmpfmgofaaW.PrintWords Go.Proofs.YtamikhmpfmgofaaW.PrintLast Go.Proofs.YtamikhmpfmgofaaW.PrintMore Go.Proofs.YtamikhmpfmgofaaW.Pl
theorem half_at (a b n : Nat) (h : a≤n) (h2 : b≤n) (hn : n≤1048576) : wrap64 ((IntKind.u64.wrap (wrap64 ((a : Int)+(b : Int)))) / 2)=(((a+b) / 2 : Nat) : Int):=by
 rw [w64 (show -9223372036854775808≤(a : Int)+(b : Int) by omega) (by omega),show IntKind.u64.wrap ((a : Int)+(b : Int))=((a : Int)+(b : Int)) % 18446744073709551616 from rfl,w64 (by omega) (by omega)]
 omega
theorem ce_neg (a b : IEnt) : ce a b<0↔el a b=true:=by
 have:=ce_lt a b
 by_cases h : el a b=true
 ·
  exact ⟨fun _=>h,fun _=>by
   by_cases h2 : ce a b ≥ 0
   ·
    exact absurd h (this.1 h2)
   omega⟩
 exact ⟨fun h2=>absurd (this.2 h) (by omega),fun h2=>absurd h2 h⟩
theorem ce_zero (a b : IEnt) : ce a b=0↔a=b:=by
 constructor
 ·
  intro h
  exact el_total ((ce_lt a b).1 (by omega)) ((ce_le a b).1 (by omega))
 rintro rfl;have h1:=(ce_lt a a).2 (by rw [el_irrefl];decide);have h2:=(ce_le a a).2 (by rw [el_irrefl];decide)
 omega
theorem half_ents (l : List IEnt) (e : IEnt) (hl : l.length≤1048576) (hr : Rise l) :
  ∀ (d a b : Nat),b - a≤d→a≤b→b≤l.length→(∀ j (hj : j<l.length),j<a→el l[j] e=true)→(∀ j (hj : j<l.length),b≤j → ¬ el l[j] e=true) →
   Eve (fun k=>F6.l0 k l (l.length : Int) (a : Int) (b : Int) e.f0 e.f1) ((up e l : Int),th e l):=by
 intro d
 induction d with
 | zero =>
  intro a b hd hab hb h1 h2;obtain rfl : a=b:=by omega
  have hu : up e l=a:=up_is e a hb h1 h2;rw [hu];refine Eve.succ ?_;simp only [F6.l0];refine Eve.ite (fun h=>absurd h (by omega)) (fun _=>?_)
  by_cases h : a<l.length
  ·
   simp only [rdIE l a h]
   refine Eve.ite (fun _=>Eve.ite (fun _=>Eve.ite (fun _=>Eve.bind (compare_tells l[a] e) (Eve.one.eq ?_)) (fun h=>absurd (by omega) h)) (fun h=>absurd (by omega) h)) (fun h=>absurd (by omega) h);have hz:=ce_zero l[a] e
   have : (ce l[a] e == 0)=th e l:=by
    rw [Bool.eq_iff_iff,th_iff,beq_iff_eq,hz];simp only [hu];exact ⟨fun h3=>⟨h,h3⟩,fun ⟨_,h3⟩=>h3⟩
   rw [this]
  have ht : th e l=false:=by
   unfold th;rw [dif_neg (by rw [hu];exact h)]
  rw [ht];exact Eve.ite (fun h=>absurd h (by omega)) (fun _=>Eve.one)
 | succ d ih =>
  intro a b hd hab hb h1 h2
  by_cases hlt : a<b
  ·
   have hm:=half_at a b l.length (by omega) hb hl
   have hq : (a+b) / 2<l.length:=by omega
   refine Eve.succ ?_;simp only [F6.l0,hm,rdIE l _ hq,wi (show (a+b) / 2≤9223372036854775806 by omega)];refine Eve.ite (fun _=>?_) (fun h=>absurd (by omega) h);refine Eve.ite (fun _=>?_) (fun h=>absurd (by omega) h);refine Eve.ite (fun _=>?_) (fun h=>absurd (by omega) h);refine Eve.bind (compare_tells l[(a+b) / 2] e) ?_;refine Eve.ite (fun hc=>?_) (fun hc=>?_)
   ·
    have hc:=(ce_neg _ _).1 hc
    exact ih ((a+b) / 2+1) b (by omega) (by omega) hb (fun j hj hjm=>by
     by_cases e1 : j=(a+b) / 2
     ·
      subst e1;exact hc
     exact el_trans (rise_at hr j _ hj hq (by omega)) hc) h2
   have hc : ¬ el l[(a+b) / 2] e=true:=fun h=>hc ((ce_neg _ _).2 h)
   exact ih a ((a+b) / 2) (by omega) (by omega) (by omega) h1 (fun j hj hjm=>by
    by_cases e1 : j=(a+b) / 2
    ·
     subst e1;exact hc
    exact fun hlt2=>hc (el_trans (rise_at hr _ j hq hj (by omega)) hlt2))
  exact ih a b (by omega) hab hb h1 h2
theorem find_tells (T : List IPag) (n : Int) (e : IEnt) (hT : T.length≤1000000) (hp : ∀ p ∈ T,p.f1.length≤1000000) (h0 : 0<T.length) (hr : Rise (T.flatMap (·.f1))) :
  Eve (fun k=>F00.f k T n e.f0 e.f1) (place e 0 0 T,(up e (pageN T e).f1 : Int),th e (pageN T e).f1):=by
 simp only [F00.f];refine Eve.bind (place_impl T n e (by omega)) ?_;have hin:=place_in e T 0 0 (by omega) (by omega);have hpm : pageN T e ∈ T:=by rw [pageN_at e h0];exact List.getElem_mem _
 rw [rd_page e h0];refine Eve.ite (fun _=>?_) (fun h=>absurd hin.1 h);refine Eve.ite (fun _=>?_) (fun h=>absurd (by omega) h);simp only [F6.f];have:=hp _ hpm;refine Eve.bind (half_ents (pageN T e).f1 e (by omega) (page_rise hr hpm) _ 0 (pageN T e).f1.length (by omega) (Nat.zero_le _) (Nat.le_refl _) (fun j _ h=>absurd h (by omega)) (fun j hj h=>absurd hj (by omega))) ?_;exact Eve.one
theorem clone_tells (T : List IPag) (n : Int) (hT : T.length≤1048576) (hp : ∀ p ∈ T,p.f1.length≤1048576) : Eve (fun k=>Fa.f k T n) (T,n):=by
 simp only [Fa.f]
 have:=ev_loop0 T (fun k (o : List IPag) i=>Fa.l0 k T (T.length : Int) i o n) (fun _ o r=>(o++r,n)) (fun i o=>o.length=i) (fun o ho=>by
  simp only [Fa.l0]
  exact Eve.ite (fun h=>absurd h (by omega)) (fun _=>Eve.one.eq (by simp))) (fun i hi o ho ih=>by
  have hpi:=hp _ (List.getElem_mem hi)
  have hc : F09.f T[i].f1=some T[i].f1:=by
   unfold F09.f;rw [if_pos (by omega)]
  simp only [Fa.l0,Option.bind_some,rdIP _ _ hi,wi (show i≤9223372036854775806 by omega),hc];refine Eve.ite (fun _=>?_) (fun h=>absurd (by omega) h);refine Eve.ite (fun _=>?_) (fun h=>absurd (by omega) h);refine Eve.ite (fun _=>?_) (fun h=>absurd (by omega) h);refine Eve.ite (fun _=>?_) (fun h=>absurd (by omega) h)
  exact (ih _ (by simp [ho])).eq (by rw [List.append_assoc];rfl)) [] rfl
 simpa using this
def dropA (T : List IPag) (n : Int) (e : IEnt) : List IPag×Int×Int:=if tok T n=true∧eok e=true then (if th e (pageN T e).f1=true then (dropT T e,n,0) else (T,n,5)) else ([],0,1)
theorem poks_small (T : List IPag) (n : Int) : ∀ (ps : List IPag) (seen : List Int),poks T n seen ps=true → ∀ p ∈ ps,p.f1.length≤4
 | [],_,_,p,hp=>by cases hp
 | q :: ps,seen,h,p,hp=>by
  simp only [poks,pok,Bool.and_eq_true,decide_eq_true_eq] at h;rcases List.mem_cons.1 hp with rfl|hp
  ·
   omega
  exact poks_small T n ps _ h.2 p hp
theorem tok_facts {T : List IPag} {n : Int} (h : tok T n=true) : 0<T.length∧T.length≤60∧Rise (T.flatMap (·.f1)) ∧ ∀ p ∈ T,p.f1.length≤4:=by
 simp only [tok,inr,Bool.and_eq_true,decide_eq_true_eq] at h;exact ⟨by omega,by omega,ens_rise _ _ h.2.2.2,poks_small T n T [] h.2.2.1⟩
theorem at_put (e : IEnt) : ∀ (l : List IEnt) (i : Nat),F2.at l e.f0 e.f1 i=some (i+up e l)
 | [],i=>rfl
 | x :: xs,i=>by
  simp only [F2.at,less_tells,Option.bind_some,up]
  by_cases c : el x e=true
  ·
   rw [if_pos c,if_pos c,at_put e xs (i+1)]
   congr 1;omega
  rw [if_neg c,if_neg c];rfl
theorem there_iff (e : IEnt) (l : List IEnt) : (up e l<l.length∧((rd_T51 l (up e l : Int)).f0.toList == e.f0.toList && ((rd_T51 l (up e l : Int)).f1 == e.f1))=true)↔th e l=true:=by
 rw [th_iff]
 constructor
 ·
  rintro ⟨h,h2⟩
  rw [rdIE l _ h] at h2;simp only [Bool.and_eq_true,beq_iff_eq] at h2;exact ⟨h,ent_eq h2.1 h2.2⟩
 rintro ⟨h,h2⟩;refine ⟨h,?_⟩;rw [rdIE l _ h,h2];simp
def rowP (e : IEnt) (l : List IEnt) : List IEnt:=l.take (up e l) ++ [e]++l.drop (up e l)
theorem rowP_length (e : IEnt) (l : List IEnt) : (rowP e l).length=l.length+1:=by
 have:=up_le e l;unfold rowP;simp only [List.length_append,List.length_take,List.length_drop,List.length_singleton];omega
def putT (T : List IPag) (n : Int) (e : IEnt) : List IPag×Int×Int×Int:=F2.out T n (pgN T e) (pageN T e).f0 (rowP e (pageN T e).f1)
def putB (T : List IPag) (n : Int) (e : IEnt) : List IPag×Int×Int×Int:=if th e (pageN T e).f1=true then (T,n,0,12) else (if (pageN T e).f1.length=4∧(T.length=60∨n=100000) then (T,n,0,7) else putT T n e)
theorem put_spec (T : List IPag) (n : Int) (e : IEnt) (hT : T.length≤1000000) (hp : ∀ p ∈ T,p.f1.length≤1000000) (h0 : 0<T.length) (hn : 0≤n∧n≤1000000) :
  Eve (fun k=>F2.f k T n e.f0 e.f1) (putB T n e):=by
 simp only [F2.f];have hpl:=place_spec T n e (by omega) h0;rw [← place_from _ _ h0] at hpl;refine Eve.bind hpl ?_;have hin:=place_in e T 0 0 (by omega) (by omega);have hg:=pg_lt e h0;have hpm : pageN T e ∈ T:=by rw [pageN_at e h0];exact List.getElem_mem _
 rw [rd_page e h0,show (place e 0 0 T).toNat=pgN T e from rfl];refine Eve.ite (fun _=>?_) (fun h=>absurd hin.1 h);refine Eve.ite (fun _=>?_) (fun h=>absurd (by omega) h);refine Eve.ite (fun _=>?_) (fun h=>absurd ⟨by omega,hp _ hpm⟩ h);rw [at_put e _ 0];simp only [Option.bind_some,Nat.zero_add];unfold putB;refine Eve.ite (fun ht=>Eve.one.eq (by rw [if_pos ((there_iff _ _).1 ht)])) (fun ht=>?_);rw [if_neg (fun h=>ht ((there_iff _ _).2 h))];refine Eve.ite (fun hf=>Eve.one.eq (by rw [if_pos hf])) (fun hf=>?_);rw [if_neg hf];refine Eve.bind (own_tells T n (by omega) (fun p hp2=>by have:=hp p hp2;omega)) ?_;refine Eve.ite (fun _=>?_) (fun h=>absurd ⟨by simp only [hg.2];omega,by simp only [];omega,w64 (by simp only [];omega) (by simp only [];omega)⟩ h);simp only [rd_page e h0];exact Eve.one
theorem put_out (T : List IPag) (n : Int) (j : Nat) (q : Int) (e : IEnt) (l : List IEnt) (hl : l.length≤4) :
  Fu.out T n j q (decide (l.length=4)) (rowP e l)=((F2.out T n j q (rowP e l)).2.2.1,(F2.out T n j q (rowP e l)).2.2.2,(F2.out T n j q (rowP e l)).1,(F2.out T n j q (rowP e l)).2.1):=by
 have hr:=rowP_length e l;unfold Fu.out F2.out
 by_cases h : l.length=4
 ·
  rw [if_pos (decide_eq_true h),if_neg (by omega),List.set_set,show (rowP e l).length / 2=2 by omega]
 rw [if_neg (by simp [h]),if_pos (by omega)]
theorem put_impl (T : List IPag) (n : Int) (e : IEnt) (hT : T.length≤1000000) (hp : ∀ p ∈ T,p.f1.length≤4) (h0 : 0<T.length) (hr : Rise (T.flatMap (·.f1))) (hn : 0≤n∧n≤1000000) :
  Eve (fun k=>Fu.f k T n e.f0 e.f1) ((putB T n e).2.2.1,(putB T n e).2.2.2,(putB T n e).1,(putB T n e).2.1):=by
 simp only [Fu.f];refine Eve.bind (find_tells T n e hT (fun p h=>by have:=hp p h;omega) h0 hr) ?_;have hg:=pg_lt e h0;have hin:=place_in e T 0 0 (by omega) (by omega);have hpm : pageN T e ∈ T:=by rw [pageN_at e h0];exact List.getElem_mem _
 have hpl:=hp _ hpm;have hul:=up_le e (pageN T e).f1;simp only [rd_page e h0,show (place e 0 0 T).toNat=pgN T e from rfl];refine Eve.ite (fun _=>?_) (fun h=>absurd ⟨hin.1,by omega,hT,by omega⟩ h);unfold putB;refine Eve.ite (fun ht=>Eve.one.eq (by rw [if_pos ht])) (fun ht=>?_);rw [if_neg ht];refine Eve.ite (fun hf=>Eve.one.eq (by rw [if_pos hf])) (fun hf=>?_);rw [if_neg hf];refine Eve.ite (fun _=>?_) (fun h=>absurd ⟨by omega,by omega,w64 (by omega) (by omega)⟩ h);rw [Int.toNat_natCast];exact Eve.one.eq (put_out T n (pgN T e) (pageN T e).f0 e (pageN T e).f1 hpl)
def putA (T : List IPag) (n : Int) (e : IEnt) : List IPag×Int×Int×Int:=if tok T n=true∧eok e=true then putB T n e else ([],0,0,1)
theorem tok_next {T : List IPag} {n : Int} (h : tok T n=true) : 2≤n∧n≤100000:=by
 simp only [tok,inr,Bool.and_eq_true,decide_eq_true_eq] at h;exact ⟨h.2.1.1,h.2.1.2⟩
theorem set_small {T : List IPag} {j m : Nat} {q : Int} {X : List IEnt} (hp : ∀ p ∈ T,p.f1.length≤m) (hX : X.length≤m) : ∀ p ∈ T.set j ⟨q,X⟩,p.f1.length≤m:=fun p hp2=>by
 rcases List.mem_or_eq_of_mem_set hp2 with h|rfl
 ·
  exact hp p h
 exact hX
theorem putB_small (T : List IPag) (n : Int) (e : IEnt) (h0 : 0<T.length) (hT : T.length≤60) (hp : ∀ p ∈ T,p.f1.length≤4) : (putB T n e).1.length≤61 ∧ ∀ p ∈ (putB T n e).1,p.f1.length≤5:=by
 have hp5 : ∀ p ∈ T,p.f1.length≤5:=fun p h=>by have:=hp p h;omega
 have hpm : pageN T e ∈ T:=by rw [pageN_at e h0];exact List.getElem_mem _
 have hr:=rowP_length e (pageN T e).f1;have hpl:=hp _ hpm;unfold putB
 split
 ·
  exact ⟨by simp only [];omega,hp5⟩
 split
 ·
  exact ⟨by simp only [];omega,hp5⟩
 unfold putT F2.out
 split
 ·
  exact ⟨by simp only [List.length_set];omega,set_small hp5 (by omega)⟩
 simp only [];have hs:=set_small (j:=pgN T e) (q:=(pageN T e).f0) (set_small (j:=pgN T e) (q:=(pageN T e).f0) hp5 (X:=rowP e (pageN T e).f1) (by omega)) (X:=(rowP e (pageN T e).f1).take ((rowP e (pageN T e).f1).length / 2)) (by rw [List.length_take];omega);refine ⟨by simp only [List.length_append,List.length_take,List.length_drop,List.length_set,List.length_singleton];omega,fun p h=>?_⟩;rcases List.mem_append.1 h with h|h
 ·
  rcases List.mem_append.1 h with h|h
  ·
   exact hs p (List.mem_of_mem_take h)
  obtain rfl:=List.mem_singleton.1 h;simp only [List.length_drop];omega
 exact hs p (List.mem_of_mem_drop h)
theorem putA_small (T : List IPag) (n : Int) (e : IEnt) : (putA T n e).1.length≤61 ∧ ∀ p ∈ (putA T n e).1,p.f1.length≤5:=by
 unfold putA
 split
 ·
  rename_i hk
  obtain ⟨h0,h1,-,hp⟩:=tok_facts hk.1;exact putB_small T n e h0 h1 hp
 simp
theorem treePut_impl (T : List IPag) (n : Int) (e : IEnt) (hT : T.length≤1048576) (hf : (T.flatMap (·.f1)).length≤1048576) : Eve (fun k=>F07.f k T n e.f0 e.f1) (putA T n e):=by
 simp only [F07.f];refine Eve.bind (implOK_tells T n (by omega) hf) ?_;refine Eve.ite (fun hk=>?_) (fun hk=>Eve.one.eq (by unfold putA;rw [if_neg (fun h=>hk h.1)]));rw [eok_impl];simp only [Option.bind_some];refine Eve.ite (fun he=>?_) (fun he=>Eve.one.eq (by unfold putA;rw [if_neg (fun h=>he h.2)]));obtain ⟨h0,h60,hr,hp⟩:=tok_facts hk;have hn:=tok_next hk;have hsm:=putB_small T n e h0 h60 hp;refine Eve.bind (clone_tells T n (by omega) (fun p h=>by have:=hp p h;omega)) ?_;refine Eve.bind (put_impl T n e (by omega) hp h0 hr (by omega)) ?_;refine Eve.bind (clone_tells (putB T n e).1 (putB T n e).2.1 (by have:=hsm.1;omega) (fun p h=>by have:=hsm.2 p h;omega)) ?_;exact Eve.one.eq (by unfold putA;rw [if_pos ⟨hk,he⟩])
theorem treePut_spec (T : List IPag) (n : Int) (e : IEnt) (hT : T.length≤1048576) (hp : ∀ p ∈ T,p.f1.length≤1048576) : Eve (fun k=>F08.f k T n e.f0 e.f1) (putA T n e):=by
 simp only [F08.f];refine Eve.bind (specOK_tells T n (by omega) (fun p h=>by have:=hp p h;omega)) ?_;refine Eve.ite (fun hk=>?_) (fun hk=>Eve.one.eq (by unfold putA;rw [if_neg (fun h=>hk h.1)]));rw [eok_spec];simp only [Option.bind_some];refine Eve.ite (fun he=>?_) (fun he=>Eve.one.eq (by unfold putA;rw [if_neg (fun h=>he h.2)]));obtain ⟨h0,h60,hr,hp4⟩:=tok_facts hk;have hn:=tok_next hk;have hsm:=putB_small T n e h0 h60 hp4;refine Eve.bind (put_spec T n e (by omega) (fun p h=>by have:=hp4 p h;omega) h0 (by omega)) ?_;refine Eve.bind (own_tells (putB T n e).1 (putB T n e).2.1 (by have:=hsm.1;omega) (fun p h=>by have:=hsm.2 p h;omega)) ?_;exact Eve.one.eq (by unfold putA;rw [if_pos ⟨hk,he⟩])
end Go.Proofs.Ytamikhmpfmgofaa.Pure
end
section
namespace Go.Proofs.Ytamikhmpfmgofaa.Q
open Go.RowKit Go.Proofs.YtamikhmpfmgofaaW.PrintWords Go.Proofs.YtamikhmpfmgofaaW.PrintLast Go.Proofs.YtamikhmpfmgofaaW.PrintMore
attribute [local go_sem] max2_int min2_int max_two min_two max_three min_three max_four min_four max2_str min2_str str_geq str_gtr str_leq
set_option linter.unusedVariables false
set_option linter.unusedSimpArgs false

def Fx.l0 : Nat→List Int→List Int→Int→Option (Bool)
 | 0,_,_,_=>none
 | k+1,x0,x1,x5=>if x5<(x0.length : Int) then (if 0≤x5 then (if x5<(x1.length : Int) then (if (rd x0 x5)=(rd x1 x5) then (Fx.l0 k x0 x1 (wrap64 (x5+1))) else (some false)) else (none)) else (none)) else (some true)
def Fx.f (k : Nat) (l0 : List Int) (l1 : List Int) : Option (Bool):=if (l0.length : Int)=(l1.length : Int) then (Fx.l0 k l0 l1 0) else (some false)
theorem Fx.mono_l : ∀ k,(∀ y0 y1 y2,LeO (Fx.l0 k y0 y1 y2) (Fx.l0 (k+1) y0 y1 y2))
 | 0=>fun _ _ _ r h=>by simp [Fx.l0] at h
 | k+1=>by
  have ih0:=Fx.mono_l k;intro y0 y1 y2;unfold Fx.l0
  repeat' first|(with_reducible first|exact ih0 _ _ _|exact zQ _|exact zN _|refine zP ?_ ?_|refine zO ?_ (fun _=>?_))|refine zP ?_ ?_|refine zO ?_ (fun _=>?_)
theorem Fx.mono : ∀ a0 a1 k,LeO (Fx.f k a0 a1) (Fx.f (k+1) a0 a1):=by
 intro a0 a1 k;have ih0:=Fx.mono_l k;unfold Fx.f
 repeat' first|(with_reducible first|exact ih0 _ _ _|exact zQ _|exact zN _|refine zP ?_ ?_|refine zO ?_ (fun _=>?_))|refine zP ?_ ?_|refine zO ?_ (fun _=>?_)
set_option maxHeartbeats 8000000 in
set_option maxRecDepth 100000 in
theorem Fx.calls (k : Nat) (A0 : Option Addr) (c0 : Nat) (l0 : List Int) (A1 : Option Addr) (c1 : Nat) (l1 : List Int) (r : Bool) (w : World) (hr0 : Kd.C (Kd.int .i64) w A0 l0.length l0) (hc0 : l0.length≤c0) (hr1 : Kd.C (Kd.int .i64) w A1 l1.length l1) (hc1 : l1.length≤c1) (h : Fx.f k l0 l1=some r) :
  Calls Try.prog 13 #[.slice A0 l0.length c0,.slice A1 l1.length c1] w fun e w' => e = .returned (.bool r)∧Drawn0 w w':=by
 have HR0:=zh hr0;have HC0:=zh hc0;clear hr0 hc0;have HR1:=zh hr1;have HC1:=zh hc1;clear hr1 hc1;have H : (if (l0.length : Int)=(l1.length : Int) then (Fx.l0 k l0 l1 0) else (some false))=some r:=h;clear h
 by_cases c3 : (l0.length : Int)=(l1.length : Int)
 ·
  rw [if_pos c3] at H
  have c3b0 : ((l0.length : Int) == (l1.length : Int))=true:=ya.mpr c3;have c3b1 : ((l0.length : Int) != (l1.length : Int))=false:=zX.mpr c3;have c3b2 : (l0.length == l1.length)=true:=by first|simpa using c3|(simp at c3 ⊢;omega)
  clear c3;have H':=zh H;clear H
  go_enter Try.func13,Try.ntmps13
  go_wp2
  repeat (go_quiet (fail);try go_wp2)
  go_loopg [5] k (fun kq v5 w' => ∃ (x5_1 : Int),v5 = .int .i64 x5_1∧Aside0 (Fx.l0 kq l0 l1 x5_1=some r)∧Aside0 (kq≤k)∧Drawn0 w w')
  case atStart=>exact ⟨(0),jE,H',⟨ye _⟩,jJ⟩
  case round =>
   clear H'
   try clear c1
   try clear p2
   try clear c3 c3b0 c3b1 c3b2
   obtain ⟨x5_1,rfl,HA,HK1,⟨m1,rfl⟩⟩:=hrel
   cases gk with
   | zero=>exact absurd HA.out (by simp [Fx.l0])
   | succ k1 =>
    have H:=HA.out;clear HA;simp only [Fx.l0] at H
    by_cases c4 : x5_1<(l0.length : Int)
    ·
     rw [if_pos c4] at H
     have c4b0 : decide (x5_1<(l0.length : Int))=true:=decide_eq_true c4;clear c4
     by_cases c5 : 0≤x5_1
     ·
      rw [if_pos c5] at H
      have c5b0 : decide (0≤x5_1)=true:=decide_eq_true c5;clear c5
      by_cases c6 : x5_1<(l1.length : Int)
      ·
       rw [if_pos c6] at H
       have c6b0 : decide (x5_1<(l1.length : Int))=true:=decide_eq_true c6;clear c6
       by_cases c7 : (rd l0 x5_1)=(rd l1 x5_1)
       ·
        rw [if_pos c7] at H
        have c7b0 : ((rd l0 x5_1) == (rd l1 x5_1))=true:=ya.mpr c7;have c7b1 : ((rd l0 x5_1) != (rd l1 x5_1))=false:=zX.mpr c7;clear c7;have H':=zh H;clear H;have p298 : 0≤(x5_1 : Int):=zy jC;have q298 : x5_1<(l0.length : Int):=zy jC;obtain ⟨ad298,e298,hx298_0⟩:=Kd.at_int HR0.out x5_1 p298 q298
        cases e298
        replace p298:=eq_true p298;replace q298:=eq_true q298;have p299 : 0≤(x5_1 : Int):=zy jC;have q299 : x5_1<(l1.length : Int):=zy jC;obtain ⟨ad299,e299,hx299_0⟩:=Kd.at_int HR1.out x5_1 p299 q299
        cases e299
        replace p299:=eq_true p299;replace q299:=eq_true q299
        go_wp2
        repeat (go_quiet (fail);try go_wp2)
        go_roundg k1
        case measure=>have:=HK1.out;omega
        case rel=>exact ⟨(wrap64 (x5_1+1)),jE,H',⟨jL⟩,jJ⟩
       rw [if_neg c7] at H;have c7b0 : ((rd l0 x5_1) == (rd l1 x5_1))=false:=zY.mpr c7;have c7b1 : ((rd l0 x5_1) != (rd l1 x5_1))=true:=zZ.mpr c7;obtain rfl:=zU H;have p298 : 0≤(x5_1 : Int):=zy jC;have q298 : x5_1<(l0.length : Int):=zy jC;obtain ⟨ad298,e298,hx298_0⟩:=Kd.at_int HR0.out x5_1 p298 q298
       cases e298
       replace p298:=eq_true p298;replace q298:=eq_true q298;have p299 : 0≤(x5_1 : Int):=zy jC;have q299 : x5_1<(l1.length : Int):=zy jC;obtain ⟨ad299,e299,hx299_0⟩:=Kd.at_int HR1.out x5_1 p299 q299
       cases e299
       replace p299:=eq_true p299;replace q299:=eq_true q299
       go_wp2
       repeat (go_quiet (fail);try go_wp2)
       go_ret
       exact ⟨jE,jJ⟩
      rw [if_neg c6] at H;exact absurd H (by simp)
     rw [if_neg c5] at H;exact absurd H (by simp)
    rw [if_neg c4] at H;have c4b0 : decide (x5_1<(l0.length : Int))=false:=decide_eq_false c4;clear c4;obtain rfl:=zU H
    go_wp2
    repeat (go_quiet (fail);try go_wp2)
    go_ret
    exact ⟨jE,jJ⟩
 rw [if_neg c3] at H;have c3b0 : ((l0.length : Int) == (l1.length : Int))=false:=zY.mpr c3;have c3b1 : ((l0.length : Int) != (l1.length : Int))=true:=zZ.mpr c3;have c3b2 : (l0.length == l1.length)=false:=by first|simpa using c3|(simp at c3 ⊢;omega)
 obtain rfl:=zU H
 go_enter Try.func13,Try.ntmps13
 go_wp2
 repeat (go_quiet (fail);try go_wp2)
 go_ret
 exact ⟨jE,jJ⟩


def Fw.l0 : Nat→List Int→Int→Int→Option (Int×List Int)
 | 0,_,_,_=>none
 | k+1,x0,x1,x5=>if x5<(x0.length : Int) then (if 0≤x5 then (Fw.l0 k (x0.set (x5 : Int).toNat x1) (wrap64 (x1+1)) (wrap64 (x5+1))) else (none)) else (some (x1,x0))
def Fw.f (k : Nat) (l0 : List Int) (a1 : Int) : Option (Int×List Int):=Fw.l0 k l0 a1 0
theorem Fw.mono_l : ∀ k,(∀ y0 y1 y2,LeO (Fw.l0 k y0 y1 y2) (Fw.l0 (k+1) y0 y1 y2))
 | 0=>fun _ _ _ r h=>by simp [Fw.l0] at h
 | k+1=>by
  have ih0:=Fw.mono_l k;intro y0 y1 y2;unfold Fw.l0
  repeat' first|(with_reducible first|exact ih0 _ _ _|exact zQ _|exact zN _|refine zP ?_ ?_|refine zO ?_ (fun _=>?_))|refine zP ?_ ?_|refine zO ?_ (fun _=>?_)
theorem Fw.mono : ∀ a0 a1 k,LeO (Fw.f k a0 a1) (Fw.f (k+1) a0 a1):=by
 intro a0 a1 k;have ih0:=Fw.mono_l k;unfold Fw.f
 repeat' first|(with_reducible first|exact ih0 _ _ _|exact zQ _|exact zN _|refine zP ?_ ?_|refine zO ?_ (fun _=>?_))|refine zP ?_ ?_|refine zO ?_ (fun _=>?_)
set_option maxHeartbeats 8000000 in
set_option maxRecDepth 100000 in
theorem Fw.calls (k : Nat) (P0_ : Nat→Prop) (u9000_ : Value) (l0 : List Int) (a1 : Int) (r1 : Int) (r2 : List Int) (w0 w : World) (hB : Below w0.heap.size w0 w) (ho0 : Kd.R (Kd.int .i64) 3 w w0.heap.size P0_ u9000_ l0) (h : Fw.f k l0 a1=some (r1,r2)) :
  Calls Try.prog 17 #[u9000_,.int .i64 a1] w fun e w' => e = .returned (.int .i64 r1)∧Kd.R (Kd.int .i64) 3 w' w0.heap.size (fun k_=>(P0_ k_∨w.heap.size≤k_)) u9000_ r2∧Below w0.heap.size w0 w' ∧ Kept w w' (fun k_=>P0_ k_):=by
 have HO0:=zh (show Kd.R (Kd.int .i64) 3 w w0.heap.size (fun k_=>(P0_ k_∨w.heap.size≤k_)) u9000_ l0 from zM ho0 (fun k_ hk=>(.inl hk)));have HK:=zh (Kept.refl w (fun k_=>P0_ k_));have HW0:=zh hB.size;have HB:=zh hB;clear hB;have H : (Fw.l0 k l0 a1 0)=some (r1,r2):=h;clear h;have H':=zh H;clear H
 go_enter Try.func17,Try.ntmps17
 go_wp2
 go_loopg [1,5] k (fun kq v1 v5 w' => ∃ (x0_1 : List Int) (x1_1 : Int) (x5_1 : Int),v1 = .int .i64 x1_1∧v5 = .int .i64 x5_1∧Aside0 (Fw.l0 kq x0_1 x1_1 x5_1=some (r1,r2))∧Aside0 (kq≤k)∧Aside0 (Kd.R (Kd.int .i64) 3 w' w0.heap.size (fun k_=>(P0_ k_∨w.heap.size≤k_)) u9000_ x0_1)∧Aside0 (Kept w w' (fun k_=>P0_ k_))∧Aside0 (Below w0.heap.size w0 w'))
 case atStart=>exact ⟨(l0),(a1),(0),jE,jE,H',⟨ye _⟩,⟨jBW⟩,⟨jX⟩,⟨jF⟩⟩
 case round =>
  clear H'
  try clear c1
  try clear p2
  obtain ⟨x0_1,x1_1,x5_1,rfl,rfl,HA,HK1,HO_0,HK,HB⟩:=hrel
  cases gk with
  | zero=>exact absurd HA.out (by simp [Fw.l0])
  | succ k1 =>
   have H:=HA.out;clear HA;simp only [Fw.l0] at H
   by_cases c3 : x5_1<(x0_1.length : Int)
   ·
    rw [if_pos c3] at H
    have c3b0 : decide (x5_1<(x0_1.length : Int))=true:=decide_eq_true c3;clear c3
    by_cases c4 : 0≤x5_1
    ·
     rw [if_pos c4] at H
     have c4b0 : decide (0≤x5_1)=true:=decide_eq_true c4;clear c4;obtain ⟨y315,hy315⟩ : ∃ y_ : List Int,y_=(x0_1.set (x5_1 : Int).toNat x1_1):=⟨_,rfl⟩;replace H : (Fw.l0 k1 y315 (wrap64 (x1_1+1)) (wrap64 (x5_1+1)))=some (r1,r2):=by first|(rw [hy315];with_reducible exact H)|(have H2_:=(Option.bind_some _ _).symm.trans H;rw [hy315];with_reducible exact H2_)|(have H2_:=(Option.bind_some _ _).symm.trans H;with_reducible exact H2_)|with_reducible exact H|(rw [hy315];exact H)|exact H
     have Ny315:=zh hy315;clear hy315;have H':=zh H;clear H;obtain ⟨Ao6,co6,eo6⟩:=yk HO_0.out;subst eo6;have p5 : 0≤(x5_1 : Int):=zy jC;have q5 : (x5_1 : Int)<((x0_1.length : Int) : Int):=zy jC;obtain ⟨go5,co5,eo5,gb5,gl5,cl5,HG5⟩:=Kd.R_form HO_0.out jD;(first|cases eo5|(injection eo5 with ea_ en_ ec_;(first|subst ea_|(injection ea_ with ea_;subst ea_));subst ec_;clear en_));have GB5:=zh gb5;have GG5:=zh HG5;clear gb5 gl5 HG5;have HMgo5:=zh (show (P0_ go5∨w.heap.size≤go5) from (HO_0.out.1 _ rfl));obtain ⟨hx5_0,hf5_0⟩:=Kd.R_celln 0 HO_0.out (x5_1 : Int) p5 q5;replace p5:=eq_true p5;replace q5:=eq_true q5;have HP7:=Kd.R_putg HO_0.out (x5_1 : Int) x1_1
     go_wp2_with (first|((with_reducible refine gate_store (t:=3) (p:=15) rfl ?_);refine store_event (t:=3) (p:=15) (v:=?vo_w8) (w1:=(wr.setCell ⟨go5,(x5_1 : Int).toNat,none⟩ (.int .i64 x1_1))) ?hg ?ho ?hn ?hr ?_;(case ho=>rfl);(case hg=>rfl);(case hn=>rfl);(case hr=>go_simp <;> rfl);intro w8 hw;have hg : wr.grownBy w8 (some go5):=(by rw [hw];exact HP7.2);have hp_ : Kd.R (Kd.int .i64) 3 w8 w0.heap.size (fun k_=>(P0_ k_∨w.heap.size≤k_)) (.slice (some ⟨go5,0,none⟩) x0_1.length co6) y315:=(by rw [hw,Ny315.out];exact HP7.1);clear HP7;replace HB:=zh ((by rw [hw];exact zd (HB.out) GB5.out : Below w0.heap.size w0 w8));replace HK:=zh (yz (S:=(fun k_=>P0_ k_)) hg jX (fun k_ e_=>(HO_0.out.1 k_ e_)));replace HO_0:=zh (hp_);clear hg hw hp_))
     go_roundg k1
     case measure=>have:=HK1.out;omega
     case rel=>exact ⟨(y315),(wrap64 (x1_1+1)),(wrap64 (x5_1+1)),jE,jE,H',⟨jL⟩,⟨jr⟩,⟨jX⟩,⟨jF⟩⟩
    rw [if_neg c4] at H;exact absurd H (by simp)
   rw [if_neg c3] at H;have c3b0 : decide (x5_1<(x0_1.length : Int))=false:=decide_eq_false c3;clear c3;simp only [Option.some.injEq,Prod.mk.injEq] at H;obtain ⟨rfl,rfl⟩:=H;obtain ⟨Ao9,co9,eo9⟩:=yk HO_0.out;subst eo9
   go_wp2
   go_ret
   exact ⟨jH,jr,jF,jX⟩


def Fy.l0 : Nat→List Int→Int→Int→Option (Int)
 | 0,_,_,_=>none
 | k+1,x0,x1,x5=>if x5<(x0.length : Int) then (if 0≤x5 then (if (rd x0 x5)=x1 then (Fy.l0 k x0 (wrap64 (x1+1)) (wrap64 (x5+1))) else (some (-1))) else (none)) else (some x1)
def Fy.f (k : Nat) (l0 : List Int) (a1 : Int) : Option (Int):=Fy.l0 k l0 a1 0
theorem Fy.mono_l : ∀ k,(∀ y0 y1 y2,LeO (Fy.l0 k y0 y1 y2) (Fy.l0 (k+1) y0 y1 y2))
 | 0=>fun _ _ _ r h=>by simp [Fy.l0] at h
 | k+1=>by
  have ih0:=Fy.mono_l k;intro y0 y1 y2;unfold Fy.l0
  repeat' first|(with_reducible first|exact ih0 _ _ _|exact zQ _|exact zN _|refine zP ?_ ?_|refine zO ?_ (fun _=>?_))|refine zP ?_ ?_|refine zO ?_ (fun _=>?_)
theorem Fy.mono : ∀ a0 a1 k,LeO (Fy.f k a0 a1) (Fy.f (k+1) a0 a1):=by
 intro a0 a1 k;have ih0:=Fy.mono_l k;unfold Fy.f
 repeat' first|(with_reducible first|exact ih0 _ _ _|exact zQ _|exact zN _|refine zP ?_ ?_|refine zO ?_ (fun _=>?_))|refine zP ?_ ?_|refine zO ?_ (fun _=>?_)
set_option maxHeartbeats 8000000 in
set_option maxRecDepth 100000 in
theorem Fy.calls (k : Nat) (A0 : Option Addr) (c0 : Nat) (l0 : List Int) (a1 : Int) (r : Int) (w : World) (hr0 : Kd.C (Kd.int .i64) w A0 l0.length l0) (hc0 : l0.length≤c0) (h : Fy.f k l0 a1=some r) :
  Calls Try.prog 19 #[.slice A0 l0.length c0,.int .i64 a1] w fun e w' => e = .returned (.int .i64 r)∧Drawn0 w w':=by
 have HR0:=zh hr0;have HC0:=zh hc0;clear hr0 hc0;have H : (Fy.l0 k l0 a1 0)=some r:=h;clear h;have H':=zh H;clear H
 go_enter Try.func19,Try.ntmps19
 go_wp2
 go_loopg [1,5] k (fun kq v1 v5 w' => ∃ (x1_1 : Int) (x5_1 : Int),v1 = .int .i64 x1_1∧v5 = .int .i64 x5_1∧Aside0 (Fy.l0 kq l0 x1_1 x5_1=some r)∧Aside0 (kq≤k)∧Drawn0 w w')
 case atStart=>exact ⟨(a1),(0),jE,jE,H',⟨ye _⟩,jJ⟩
 case round =>
  clear H'
  try clear c1
  try clear p2
  obtain ⟨x1_1,x5_1,rfl,rfl,HA,HK1,⟨m1,rfl⟩⟩:=hrel
  cases gk with
  | zero=>exact absurd HA.out (by simp [Fy.l0])
  | succ k1 =>
   have H:=HA.out;clear HA;simp only [Fy.l0] at H
   by_cases c3 : x5_1<(l0.length : Int)
   ·
    rw [if_pos c3] at H
    have c3b0 : decide (x5_1<(l0.length : Int))=true:=decide_eq_true c3;clear c3
    by_cases c4 : 0≤x5_1
    ·
     rw [if_pos c4] at H
     have c4b0 : decide (0≤x5_1)=true:=decide_eq_true c4;clear c4
     by_cases c5 : (rd l0 x5_1)=x1_1
     ·
      rw [if_pos c5] at H
      have c5b0 : ((rd l0 x5_1) == x1_1)=true:=ya.mpr c5;have c5b1 : ((rd l0 x5_1) != x1_1)=false:=zX.mpr c5;clear c5;have H':=zh H;clear H;have p319 : 0≤(x5_1 : Int):=zy jC;have q319 : x5_1<(l0.length : Int):=zy jC;obtain ⟨ad319,e319,hx319_0⟩:=Kd.at_int HR0.out x5_1 p319 q319
      cases e319
      replace p319:=eq_true p319;replace q319:=eq_true q319
      go_wp2
      go_roundg k1
      case measure=>have:=HK1.out;omega
      case rel=>exact ⟨(wrap64 (x1_1+1)),(wrap64 (x5_1+1)),jE,jE,H',⟨jL⟩,jJ⟩
     rw [if_neg c5] at H;have c5b0 : ((rd l0 x5_1) == x1_1)=false:=zY.mpr c5;have c5b1 : ((rd l0 x5_1) != x1_1)=true:=zZ.mpr c5;obtain rfl:=zU H;have p319 : 0≤(x5_1 : Int):=zy jC;have q319 : x5_1<(l0.length : Int):=zy jC;obtain ⟨ad319,e319,hx319_0⟩:=Kd.at_int HR0.out x5_1 p319 q319
     cases e319
     replace p319:=eq_true p319;replace q319:=eq_true q319
     go_wp2
     go_ret
     exact ⟨jE,jJ⟩
    rw [if_neg c4] at H;exact absurd H (by simp)
   rw [if_neg c3] at H;have c3b0 : decide (x5_1<(l0.length : Int))=false:=decide_eq_false c3;clear c3;obtain rfl:=zU H
   go_wp2
   go_ret
   exact ⟨jE,jJ⟩

end Go.Proofs.Ytamikhmpfmgofaa.Q
end
section
namespace Go.Proofs.Ytamikhmpfmgofaa.Pure
open Go Go.RowKit Go.Proofs.Ytamikhmpfmgofaa.Q Go.Proofs.YtamikhmpfmgofaaW.PrintWords Go.Proofs.YtamikhmpfmgofaaW.PrintLast Go.Proofs.YtamikhmpfmgofaaW.PrintMore Go.Proofs.YtamikhmpfmgofaaW.Pl
theorem one_size (b : Int) : (strOfNums [b]).size=1:=by
 unfold strOfNums;rw [← data_length];simp
theorem mark_loop : ∀ (n : Nat) (x : Int) (acc : ByteArray),0≤x→x≤n→acc.size+n≤4611686018427387904 → ∃ t,Eve (fun k=>Fj.l0 k x acc) t:=by
 intro n
 induction n with
 | zero =>
  intro x acc h0 h1 h2;refine ⟨(⟨#[109]⟩ : ByteArray)++acc,Eve.succ ?_⟩;simp only [Fj.l0];exact Eve.ite (fun h=>absurd h (by omega)) (fun _=>Eve.ite (fun _=>Eve.one) (fun h=>absurd (by omega) h))
 | succ n ih =>
  intro x acc h0 h1 h2
  by_cases hx : x > 0
  ·
   have e1 : Int.tdiv x 10=x / 10:=Int.tdiv_eq_ediv_of_nonneg h0
   have e2 : wrap64 (x / 10)=x / 10:=w64 (by omega) (by omega);obtain ⟨t,ht⟩:=ih (x / 10) (strOfNums [(wrap64 (48+(Int.tmod x 10))) % 256]++acc) (by omega) (by omega) (by rw [ByteArray.size_append,one_size];omega);refine ⟨t,Eve.succ ?_⟩;simp only [Fj.l0,Option.bind_some,one_size,e1,e2];exact Eve.ite (fun _=>Eve.ite (fun _=>ht) (fun h=>absurd (by omega) h)) (fun h=>absurd hx h)
  refine ⟨(⟨#[109]⟩ : ByteArray)++acc,Eve.succ ?_⟩;simp only [Fj.l0];exact Eve.ite (fun h=>absurd h hx) (fun _=>Eve.ite (fun _=>Eve.one) (fun h=>absurd (by omega) h))
theorem mark_text (x : Int) (h0 : 0≤x) (h1 : x≤4611686018427387904) : ∃ t,Eve (fun k=>Fj.f k x) t:=by
 by_cases h : x≤0
 ·
  exact ⟨⟨#[109,48]⟩,by simp only [Fj.f];exact Eve.ite (fun _=>Eve.one) (fun h2=>absurd h h2)⟩
 obtain ⟨t,ht⟩:=mark_loop x.toNat x ⟨#[]⟩ h0 (by omega) (by show 0+x.toNat≤_;omega);exact ⟨t,by simp only [Fj.f];exact Eve.ite (fun h2=>absurd h2 h) (fun _=>ht)⟩
open Classical in
noncomputable def mt (x : Int) : ByteArray:=if h : ∃ t,Eve (fun k=>Fj.f k x) t then h.choose else ⟨#[]⟩
theorem mt_tells (x : Int) (h0 : 0≤x) (h1 : x≤4611686018427387904) : Eve (fun k=>Fj.f k x) (mt x):=by
 have h:=mark_text x h0 h1;unfold mt;rw [dif_pos h];exact h.choose_spec
theorem filled {α : Type} (ys : List α) (n : Nat) (c : Nat→α) (h1 : ys.length=n) (h2 : ∀ j,j<n→ys[j]? = some (c j)) : ys=(List.range n).map c:=by
 apply List.ext_getElem?
 intro j
 by_cases hj : j<n
 ·
  rw [h2 j hj];simp [hj]
 rw [List.getElem?_eq_none (by omega),List.getElem?_eq_none (by simp;omega)]
theorem fill_next {α : Type} (ys : List α) (i : Nat) (c : Nat→α) (h1 : i<ys.length) (h2 : ∀ j,j<i→ys[j]? = some (c j)) : ∀ j,j<i+1→(ys.set i (c i))[j]? = some (c j):=by
 intro j hj
 by_cases h : j=i
 ·
  subst h;simp [h1]
 rw [List.getElem?_set_ne (by omega)];exact h2 j (by omega)
noncomputable def cellE (x : Int) (i : Nat) : IEnt:=⟨mt (x+2*(i : Int)),x+2*(i : Int)+1⟩
theorem mark_ents (E : List IEnt) (x : Int) (h0 : 0≤x) (hx : x+2*E.length≤2305843009213693952) : Eve (fun k=>Fo.f k E x) (x+2*(E.length : Int),(List.range E.length).map (cellE x)):=by
 simp only [Fo.f];refine ev_loop0 E (fun k (s : List IEnt×Int) i=>Fo.l0 k s.1 s.2 i) (fun _ _ _=>(x+2*(E.length : Int),(List.range E.length).map (cellE x))) (fun i s=>s.1.length=E.length∧s.2=x+2*(i : Int) ∧ ∀ j,j<i→s.1[j]? = some (cellE x j)) (fun s hs=>?_) (fun i hi s hs ih=>?_) (E,x) ⟨rfl,by simp,by intro j hj;omega⟩
 ·
  obtain ⟨h1,h2,h3⟩:=hs
  simp only [Fo.l0];exact Eve.ite (fun h=>absurd h (by omega)) (fun _=>Eve.one.eq (by rw [h2,filled s.1 _ _ h1 h3]))
 obtain ⟨ys,y⟩:=s;obtain ⟨h1,h2,h3⟩:=hs;simp only at h1 h2 h3;subst h2;have hiy : i<ys.length:=by omega
 have e1 : wrap64 (x+2*(i : Int)+1)=x+2*(i : Int)+1:=w64 (by omega) (by omega);have e2 : wrap64 (x+2*(i : Int)+1+1)=x+2*((i+1 : Nat) : Int):=by rw [w64 (by omega) (by omega)];omega
 simp only [Fo.l0,Option.bind_some,e1,e2,Int.toNat_natCast,wi (show i≤9223372036854775806 by omega)];refine Eve.ite (fun _=>?_) (fun h=>absurd (by omega) h);refine Eve.bind (mt_tells _ (by omega) (by omega)) ?_;refine Eve.ite (fun _=>?_) (fun h=>absurd (by omega) h)
 have e3 : rd_T51 (ys.set i ⟨mt (x+2*(i : Int)),(rd_T51 ys (i : Int)).f1⟩) (i : Int)=⟨mt (x+2*(i : Int)),(rd_T51 ys (i : Int)).f1⟩:=by
  rw [rdIE _ _ (by simpa using hiy),List.getElem_set_self]
 rw [e3,List.set_set];exact ih (ys.set i (cellE x i),x+2*((i+1 : Nat) : Int)) ⟨by simpa using h1,rfl,fill_next ys i (cellE x) hiy h3⟩
theorem held_ents (n : Nat) (x : Int) (h0 : 0≤x) (hx : x+2*n≤2305843009213693952) : Eve (fun k=>Fg.f k ((List.range n).map (cellE x)) x) (x+2*(n : Int)):=by
 simp only [Fg.f];have hl : ((List.range n).map (cellE x)).length=n:=by simp
 refine ev_loop0 ((List.range n).map (cellE x)) (fun k (s : Int) i=>Fg.l0 k ((List.range n).map (cellE x)) s i) (fun _ _ _=>x+2*(n : Int)) (fun i s=>s=x+2*(i : Int)) (fun s hs=>?_) (fun i hi s hs ih=>?_) x (by simp)
 ·
  simp only [Fg.l0]
  exact Eve.ite (fun h=>absurd h (by omega)) (fun _=>Eve.one.eq (by rw [hs,hl]))
 subst hs;rw [hl] at hi;have e1 : wrap64 (x+2*(i : Int)+1)=x+2*(i : Int)+1:=w64 (by omega) (by omega);have e2 : wrap64 (x+2*(i : Int)+1+1)=x+2*((i+1 : Nat) : Int):=by rw [w64 (by omega) (by omega)];omega
 simp only [Fg.l0,e1,e2,rdIE _ _ (show i<((List.range n).map (cellE x)).length by omega),wi (show i≤9223372036854775806 by omega),List.getElem_map,List.getElem_range];refine Eve.ite (fun _=>?_) (fun h=>absurd (by omega) h);refine Eve.ite (fun _=>?_) (fun h=>absurd (by omega) h);refine Eve.bind (mt_tells _ (by omega) (by omega)) ?_;refine Eve.ite (fun _=>?_) (fun h=>absurd rfl h);refine Eve.ite (fun _=>?_) (fun h=>absurd rfl h);exact ih _ rfl
def cellI (x : Int) (i : Nat) : Int:=x+(i : Int)
end Go.Proofs.Ytamikhmpfmgofaa.Pure
end
section
namespace Go.Proofs.Ytamikhmpfmgofaa.Pure
open Go Go.RowKit Go.Proofs.Ytamikhmpfmgofaa.Q Go.Proofs.YtamikhmpfmgofaaW.PrintWords Go.Proofs.YtamikhmpfmgofaaW.PrintLast Go.Proofs.YtamikhmpfmgofaaW.PrintMore Go.Proofs.YtamikhmpfmgofaaW.Pl
noncomputable def mkP : List IPag→Int→List IPag
 | [],_ => []
 | p :: ps,a=>⟨a,(List.range p.f1.length).map (cellE (a+1))⟩ :: mkP ps (a+1+2*(p.f1.length : Int))
def szP : List IPag→Int
 | []=>0
 | p :: ps=>1+2*(p.f1.length : Int)+szP ps
theorem szP_nn : ∀ T,0≤szP T
 | []=>Int.le_refl _
 | p :: ps=>by have:=szP_nn ps;simp only [szP];omega
theorem mark_pages2 : ∀ (T : List IPag) (a : Int),0≤a→a+szP T≤2305843009213693952→Eve (fun k=>F03.g k T a) (a+szP T,mkP T a)
 | [],a,_,_=>Eve.one.eq (by simp [szP,mkP])
 | p :: ps,a,h0,h1=>by
  have hnn:=szP_nn ps;simp only [szP] at h1;have e1 : wrap64 (a+1)=a+1:=w64 (by omega) (by omega);have hm:=mark_ents p.f1 (a+1) (by omega) (by omega);have ht:=mark_pages2 ps (a+1+2*(p.f1.length : Int)) (by omega) (by omega);simp only [F03.g,e1];refine Eve.bind hm ?_;refine Eve.bind ht (Eve.one.eq ?_);simp only [szP,mkP,Prod.mk.injEq,and_true]
  omega
theorem mkP_length : ∀ (T : List IPag) (a : Int),(mkP T a).length=T.length
 | [],_=>rfl
 | p :: ps,a=>by simp only [mkP,List.length_cons,mkP_length ps]
theorem held_pages2 (M : List IPag) (hM : M.length≤1048576) : ∀ (T : List IPag) (a : Int) (i : Nat),0≤a→a+szP T≤2305843009213693952→M.drop i=mkP T a→Eve (fun k=>Ft.l0 k M a (i : Int)) (a+szP T)
 | [],a,i,_,_,hd=>by
  have hl : M.length≤i:=by
   have:=congrArg List.length hd;simp only [List.length_drop,mkP,List.length_nil] at this
   omega
  refine Eve.succ ?_;simp only [Ft.l0];exact Eve.ite (fun h=>absurd h (by omega)) (fun _=>Eve.one.eq (by simp [szP]))
 | p :: ps,a,i,h0,h1,hd=>by
  have hnn:=szP_nn ps;simp only [szP] at h1
  have hi : i<M.length:=by
   have:=congrArg List.length hd;simp only [List.length_drop,mkP,List.length_cons] at this
   omega
  rw [drop_at M i hi] at hd;simp only [mkP,List.cons.injEq] at hd;obtain ⟨hx,hd⟩:=hd;have e1 : wrap64 (a+1)=a+1:=w64 (by omega) (by omega);have hh:=held_ents p.f1.length (a+1) (by omega) (by omega);have ih:=held_pages2 M hM ps (a+1+2*(p.f1.length : Int)) (i+1) (by omega) (by omega) hd;refine Eve.succ ?_;simp only [Ft.l0,rdIP _ _ hi,hx,e1,wi (show i≤9223372036854775806 by omega)];refine Eve.ite (fun _=>?_) (fun h=>absurd (by omega) h);refine Eve.ite (fun _=>?_) (fun h=>absurd (by omega) h);refine Eve.ite (fun _=>?_) (fun h=>(h (by trivial)).elim);refine Eve.bind hh ?_;refine Eve.ite (fun h=>absurd h (by omega)) (fun _=>?_);refine ih.eq ?_;simp only [szP];omega
theorem szP_le : ∀ (T : List IPag),szP T≤T.length+2*((T.flatMap (·.f1)).length : Int)
 | []=>by simp [szP]
 | p :: ps=>by
  have:=szP_le ps;simp only [szP,List.flatMap_cons,List.length_append,List.length_cons]
  omega
theorem held_tree2 (T : List IPag) (n : Int) (hT : T.length≤1048576) (h : 1+szP T≤2305843009213693952) : Eve (fun k=>F0i.f k (mkP T 1) n 1) (1+szP T):=by
 have hnn:=szP_nn T;simp only [F0i.f,Ft.f];refine Eve.bind (held_pages2 (mkP T 1) (by rw [mkP_length];exact hT) T 1 0 (by omega) h (by rw [List.drop_zero])) ?_;exact Eve.ite (fun h=>absurd h (by omega)) (fun _=>Eve.one)
theorem szP_page : ∀ (T : List IPag),(∀ p ∈ T,p.f1.length≤1000000)→szP T≤2000001*(T.length : Int)
 | [],_=>by simp [szP]
 | p :: ps,h=>by
  have:=szP_page ps (fun q hq=>h q (by simp [hq]));have:=h p (by simp);simp only [szP,List.length_cons]
  omega
theorem FnExactTreePut : F0h.Pure:=by
 rintro ⟨l,n⟩ ⟨key,id⟩ ⟨hl,hn⟩ ⟨hk,hid⟩;refine Eve.get (g:=fun k=>F0h.f k l n key id) ?_;simp only [F0h.f];refine Eve.bind (szTree_tells l n hl.1 (good_pages hl) (by omega) (by omega)) ?_
 by_cases h : (1048576 : Int) - szPS l<0
 ·
  simp only [if_pos h];exact Eve.ite (fun _=>Eve.one) (fun h=>absurd (by omega) h)
 simp only [if_neg h];have hz:=szEntry_tells (⟨key,id⟩ : LEnt) hk (left:=1048576 - szPS l) (by omega) (by omega);simp only at hz;rw [hz];simp only [Option.bind_some]
 by_cases h2 : (1048576 : Int) - szPS l - (key.size : Int)<0
 ·
  simp only [if_pos h2];exact Eve.ite (fun _=>Eve.one) (fun h=>absurd (by omega) h)
 simp only [if_neg h2];have hF : Fits l:=by unfold Fits;omega
 have hT : (l.map ip).length≤1048576:=by simpa using hF.len
 have hf : ((l.map ip).flatMap (·.f1)).length≤1048576:=by rw [map_flat];simpa using hF.flat
 have hp : ∀ p ∈ l.map ip,p.f1.length≤1048576:=fun p hp=>by
  obtain ⟨q,hq,rfl⟩:=List.mem_map.1 hp
  simpa [ip] using hF.page q hq
 refine Eve.bind (toTree_tells l n hF) ?_;have hto : F9.f key id=some (key,id):=rfl;simp only [hto,Option.bind_some];refine Eve.bind (treePut_spec (l.map ip) n ⟨key,id⟩ hT hp) ?_;refine Eve.bind (treePut_impl (l.map ip) n ⟨key,id⟩ hT hf) ?_;have hsm:=putA_small (l.map ip) n ⟨key,id⟩;generalize putA (l.map ip) n ⟨key,id⟩=A at hsm ⊢;obtain ⟨A0,A1,A2,A3⟩:=A;simp only at hsm ⊢;have hz1:=szP_le (l.map ip);have hn1:=szP_nn (l.map ip);have hz2:=szP_page A0 (fun p h=>by have:=hsm.2 p h;omega);have hn2:=szP_nn A0;refine Eve.bind (eqTree_self A0 A1 (by omega) (fun p h=>by have:=hsm.2 p h;omega)) ?_;refine Eve.bind (eqTree_to l n hF) ?_;refine Eve.bind (mark_pages2 (l.map ip) 1 (by omega) (by omega)) ?_;refine Eve.bind (mark_pages2 A0 1 (by omega) (by omega)) ?_;refine Eve.bind (held_tree2 A0 A1 (by omega) (by omega)) ?_;refine Eve.ite (fun _=>Eve.one) (fun h=>absurd ?_ h);refine ⟨by trivial,by trivial,⟨by trivial,by trivial⟩,?_,?_,by trivial,?_,?_⟩
 all_goals omega
end Go.Proofs.Ytamikhmpfmgofaa.Pure
end
section
namespace Go.Proofs.Ytamikhmpfmgofaa.fnExactTreePut
open Go.ChangeShapes Go.WideShapes Go.ChangeAt Go.RowKit Go.Proofs.YtamikhmpfmgofaaW.PrintWords Go.Proofs.YtamikhmpfmgofaaW.PrintOpen Go.Proofs.Ytamikhmpfmgofaa.Q
open Go.ChangeMaps (open_string shut_string)
set_option linter.unusedVariables false
theorem own : ownKnob Try.prog.godebug=none:=by kernel_rfl
theorem laidOut : laidOutB Try.prog=true:=by kernel_rfl
set_option maxRecDepth 100000 in
theorem lifted (os : Os) (started : os.Started) (H : Type) (enc : TypeId×Value→H) :
  ReturnsInHanded {} Try.checked os 5 .any (Rows.fnExactTreePutSpec.pre6 enc Try.prog Try.f5 Rows.fnExactTreePutRow.domain false) (Rows.fnExactTreePutSpec.post enc Try.prog Try.f5 false true false false):=by
 refine returnsInHanded_of_change_sized (C:=Try.checked) own started jA Try.func5
  (ChangeSpec.witness6 (enc:=enc) (C:=Try.checked) false ⟨#[],#[.agg #[.slice none 0 0,.int .i64 0],.agg #[.string ByteArray.empty,.int .i64 0]],[]⟩ 8 jA jA jA jA) ?_
 intro W base args ds gs before hval0 hW hcnd hsz0 _
 have hval : ∀ (j : Nat) t v,Try.f5.params[j]? = some t→args[j]? = some v→Value.okWide Try.prog W .any base t v:=hval0
 have hW':=hW
 obtain ⟨p,q,hA0,hV,rfl,hfz,hnd⟩:=hW
 have hA : DataW.TrodAll enc Try.prog W 0 (fun _=>true) true Try.f5.params.toList args.toList ds p:=hA0
 rw [Try.params5] at hA hval
 obtain ⟨v0,vs0,d0,ds0,p0,q0,hargs,rfl,rfl,h0,r0⟩:=trodAll_cons hA
 obtain ⟨v1,vs1,d1,ds1,p1,q1,rfl,rfl,rfl,h1,r1⟩:=trodAll_cons r0
 obtain ⟨rfl,rfl,rfl⟩:=trodAll_nil r1
 obtain rfl : args = #[v0,v1]:=by cases args;simp_all
 obtain ⟨rfl,rfl⟩:=trodVars_none hV
 have t0:=h0
 have lt0 : ∀ x ∈ p0,x.block<W.heap.size:=by obtain ⟨m,hm⟩:=t0;exact DataW.trod_lt m _ _ _ hm
 obtain ⟨x0,cs0,rfl,K0,g0⟩:=arg_struct Try.underlying24 opens24 (hval 0 24 v0 rfl rfl) h0
 obtain ⟨A0_0,c0_0,rfl,hl0_0,hc0_0⟩:=k24_open K0
 have t1:=h1
 have lt1 : ∀ x ∈ p1,x.block<W.heap.size:=by obtain ⟨m,hm⟩:=t1;exact DataW.trod_lt m _ _ _ hm
 obtain ⟨x1,cs1,rfl,K1,g1⟩:=arg_struct Try.underlying47 opens47 (hval 1 47 v1 rfl rfl) h1
 obtain rfl:=k47_open K1
 clear hA0 hval0 hsz0
 obtain ⟨k,hp⟩:=Pure.FnExactTreePut x0 x1 g0 g1
 refine (F0h.calls k A0_0 c0_0 x0.f0 x0.f1 x1.f0 x1.f1 true W hc0_0 hl0_0 hp).mono fun e W' ⟨he,bel0⟩=>?_
 have bel : Below W.heap.size W W':=bel0
 subst he
 exact ⟨_,rfl,_,_,_,[],_,[],hW',trodAll_mk1 (shut_bool Try.underlying4 _),(trodAll_cons_mk (Below.trod laidOut jA (of_decide_eq_true jA) t0 bel lt0) (trodAll_cons_mk (Below.trod laidOut jA (of_decide_eq_true jA) t1 bel lt1) trodAll_mk0)),rfl,bel.frame _,fun h=>by cases h⟩
theorem over : Rows.fnExactTreePutRow.holds Try.pinned (OpenSpec.ofChange Rows.fnExactTreePutSpec) :=
 OpenClaim.holds_of_wide 5 Try.f5 rfl rfl rfl rfl rfl rfl rfl ⟨rfl,rfl,rfl,rfl,rfl⟩ rfl rfl rfl rfl rfl jA Try.func5 jA
  (of_decide_eq_true jA) (by unfold Func.isWrapper;first|(rw [if_pos (by decide +kernel)];kernel_rfl)|(rw [if_neg (by decide +kernel)];exact ⟨rfl,rfl⟩))
  (fun os started H enc _=>lifted os started H enc)
theorem proved : Rows.FnExactTreePutSaid:=over
#print axioms proved
end Go.Proofs.Ytamikhmpfmgofaa.fnExactTreePut
namespace Go.Proofs.Ytamikhmpfmgofaa
theorem fnExactTreePut_holds : Rows.FnExactTreePutSaid:=fnExactTreePut.proved
end Go.Proofs.Ytamikhmpfmgofaa
end
