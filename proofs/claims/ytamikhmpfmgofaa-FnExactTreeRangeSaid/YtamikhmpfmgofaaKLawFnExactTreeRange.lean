/- FnExactTreeRange: for all arguments the law answers true, and they read behind the call as they read before. No condition. -/
import Derived.Test.YtamikhmpfmgofaaKLawFnExactTreeRangep24
import Derived.Test.YtamikhmpfmgofaaKLawFnExactTreeRangep23
import Derived.ProofKit
import Derived.OpenShut
import Derived.ShutString
import Derived.ChangeOld
import Derived.SizedLaws
import Derived.Deep.Slices
import Derived.Lib.SmallJoins
import Derived.Test.YtamikhmpfmgofaaRows
import Derived.Carry
section
namespace Go.Proofs.Ytamikhmpfmgofaa.Q
open Go.RowKit Go.Proofs.YtamikhmpfmgofaaW.PrintWords Go.Proofs.YtamikhmpfmgofaaW.PrintLast Go.Proofs.YtamikhmpfmgofaaW.PrintMore
attribute [local go_sem] max2_int min2_int max_two min_two max_three min_three max_four min_four max2_str min2_str str_geq str_gtr str_leq
set_option linter.unusedVariables false
set_option linter.unusedSimpArgs false

def Ft.l0 : Nat→List (S79)→List (S67)→Int→Option ((List (S67)))
 | 0,_,_,_ => none
 | k + 1,x0,x3,x4 => if x4<(x0.length : Int) then (if 0≤x4 then ((Fg.f k ((rd_T79 x0 x4).f0) ((rd_T79 x0 x4).f1)).bind fun bt191 => (if x4<(x3.length : Int) then (Ft.l0 k x0 (x3.set (x4 : Int).toNat (⟨bt191.1,bt191.2⟩ : S67)) (wrap64 (x4 + 1))) else (none))) else (none)) else (some x3)
def Ft.f (k : Nat) (l0 : List (S79)) : Option ((List (S67))):=if 0≤(l0.length : Int) then (if ((l0.length : Int) : Int).toNat≤8796093022208 then (Ft.l0 k l0 (List.replicate ((l0.length : Int) : Int).toNat z67) 0) else (none)) else (none)
theorem Ft.mono_l : ∀ k,(∀ y0 y1 y2,LeO (Ft.l0 k y0 y1 y2) (Ft.l0 (k + 1) y0 y1 y2))
 | 0 => fun _ _ _ r h => by simp [Ft.l0] at h
 | k + 1 => by
  have ih0:=Ft.mono_l k;intro y0 y1 y2;unfold Ft.l0
  repeat' first|(with_reducible first|exact ih0 _ _ _|exact Fg.mono _ _ _|exact zQ _|exact zN _|refine zP ?_ ?_|refine zO ?_ (fun _ => ?_))|refine zP ?_ ?_|refine zO ?_ (fun _ => ?_)
theorem Ft.mono : ∀ a0 k,LeO (Ft.f k a0) (Ft.f (k + 1) a0):=by
 intro a0 k;have ih0:=Ft.mono_l k;unfold Ft.f
 repeat' first|(with_reducible first|exact ih0 _ _ _|exact Fg.mono _ _ _|exact zQ _|exact zN _|refine zP ?_ ?_|refine zO ?_ (fun _ => ?_))|refine zP ?_ ?_|refine zO ?_ (fun _ => ?_)
set_option maxHeartbeats 8000000 in
set_option maxRecDepth 100000 in
theorem Ft.calls (k : Nat) (A0 : Option Addr) (c0 : Nat) (l0 : List (S79)) (r : List (S67)) (w : World) (hr0 : Kd.C k79 w A0 l0.length l0) (hc0 : l0.length≤c0) (h : Ft.f k l0=some r) :
  Calls Try.prog 30 #[.slice A0 l0.length c0] w fun e w' => ∃ v0_ : Value,e = .returned (v0_)∧Kd.S k67 67 w' w.heap.size (fun _ => True) v0_ r∧Below w.heap.size w w':=by
 have hu79:=Try.underlying79;have hu67:=Try.underlying67;have HR0:=zh hr0;have HC0:=zh hc0;clear hr0 hc0;have HB:=zh (Below.refl w.heap.size w);have H : (if 0≤(l0.length : Int) then (if ((l0.length : Int) : Int).toNat≤8796093022208 then (Ft.l0 k l0 (List.replicate ((l0.length : Int) : Int).toNat z67) 0) else (none)) else (none))=some r:=h;clear h
 by_cases c2 : 0≤(l0.length : Int)
 ·
  rw [if_pos c2] at H
  have c2b0:=eq_true c2;have c2b1 : decide (0≤(l0.length : Int))=true:=decide_eq_true c2;clear c2
  by_cases c3 : ((l0.length : Int) : Int).toNat≤8796093022208
  ·
   rw [if_pos c3] at H
   have c3b0:=eq_true c3;have c3b1 : decide (((l0.length : Int) : Int).toNat≤8796093022208)=true:=decide_eq_true c3;clear c3;obtain ⟨y187,hy187⟩ : ∃ y_ : List (S67),y_=(List.replicate ((l0.length : Int) : Int).toNat z67):=⟨_,rfl⟩;replace H : (Ft.l0 k l0 y187 0)=some r:=by first|(rw [hy187];with_reducible exact H)|(have H2_:=(Option.bind_some _ _).symm.trans H;rw [hy187];with_reducible exact H2_)|(have H2_:=(Option.bind_some _ _).symm.trans H;with_reducible exact H2_)|with_reducible exact H|(rw [hy187];exact H)|exact H
   have Ny187:=zh hy187;clear hy187;have H':=zh H;clear H
   go_enter Try.func30,Try.ntmps30
   go_wp2_with (first|((with_reducible refine zK (N:=7) rfl ?_);refine Kd.S_make k67 _ 67 rfl (N:=7) rfl 33 _ _ rfl (l0.length : Int) rfl rfl Try.underlying33 (.agg #[(.int .i64 0),(.slice none 0 0)]) 32 info67 rfl (by decide) (by omega) z67 (ok:=fun _ => True) (okp:=fun _ => True) (k67_mkM _ _ _ z67 (Kd.R_nil _ _ _ _ _)) (fun _ hk => hk) trivial (zy (by first|(with_reducible assumption)|assumption)) (Nat.le_trans (Nat.mul_le_mul_right _ (zy (by first|(with_reducible assumption)|assumption) : (l0.length : Int).toNat≤8796093022208)) (by omega)) (Below.refl _ _) (ye _) ?_;intro v188 w4 ho5 hb hg_ hnew_;clear hg_ hnew_;(first|rw [← Ny187.out] at ho5|(simp only [Int.reduceToNat] at ho5;rw [← Ny187.out] at ho5));have HO189:=zh (Kd.S_lower ho5 (zB (by repeat (with_reducible first|exact HB.out|apply za|apply zb|apply zc))));replace HB:=zh (zC (by repeat (with_reducible first|exact HB.out|apply za|apply zb|apply zc)) hb);clear hb ho5))
   go_loopg [4] k (fun kq v4 w' => ∃ (x3_1 : List (S67)) (x4_1 : Int),v4 = .int .i64 x4_1∧Aside0 (Ft.l0 kq l0 x3_1 x4_1=some r)∧Aside0 (kq≤k)∧Aside0 (Kd.S k67 67 w' w.heap.size (fun _ => True) v188 x3_1)∧Aside0 (Below w.heap.size w w'))
   case atStart => exact ⟨(y187),(0),(by first|rfl|(simp;done)|(simp [*];done)),H',⟨ye _⟩,⟨by (with_reducible repeat (first|apply Kd.S_alloc|apply Kd.S_drewN|apply Kd.S_drew));exact HO189.out⟩,⟨by repeat (with_reducible first|exact HB.out|apply za|apply zb|apply zc)⟩⟩
   case round =>
    clear H'
    try clear c2 c2b0 c2b1
    try clear p2
    try clear c3 c3b0 c3b1
    obtain ⟨x3_1,x4_1,rfl,HA,HK1,HO_3,HB⟩:=hrel
    cases gk with
    | zero => exact absurd HA.out (by simp [Ft.l0])
    | succ k1 =>
     have H:=HA.out;clear HA;simp only [Ft.l0] at H
     by_cases c6 : x4_1<(l0.length : Int)
     ·
      rw [if_pos c6] at H
      have c6b0 : decide (x4_1<(l0.length : Int))=true:=decide_eq_true c6;clear c6
      by_cases c7 : 0≤x4_1
      ·
       rw [if_pos c7] at H
       have c7b0 : decide (0≤x4_1)=true:=decide_eq_true c7;clear c7;replace H:=zT.mp H;obtain ⟨⟨t191,t192⟩,A80,H⟩:=H;replace H : (if x4_1<(x3_1.length : Int) then (Ft.l0 k1 l0 (x3_1.set (x4_1 : Int).toNat (⟨t191,t192⟩ : S67)) (wrap64 (x4_1 + 1))) else (none))=some r:=H;have A8:=zh A80;clear A80
       by_cases c9 : x4_1<(x3_1.length : Int)
       ·
        rw [if_pos c9] at H
        have c9b0 : decide (x4_1<(x3_1.length : Int))=true:=decide_eq_true c9;clear c9;obtain ⟨y195,hy195⟩ : ∃ y_ : List (S67),y_=(x3_1.set (x4_1 : Int).toNat (⟨t191,t192⟩ : S67)):=⟨_,rfl⟩;replace H : (Ft.l0 k1 l0 y195 (wrap64 (x4_1 + 1)))=some r:=by first|(rw [hy195];with_reducible exact H)|(have H2_:=(Option.bind_some _ _).symm.trans H;rw [hy195];with_reducible exact H2_)|(have H2_:=(Option.bind_some _ _).symm.trans H;with_reducible exact H2_)|with_reducible exact H|(rw [hy195];exact H)|exact H
        have Ny195:=zh hy195;clear hy195;have H':=zh H;clear H;have p190 : 0≤(x4_1 : Int):=zy (by first|(with_reducible assumption)|assumption);have q190 : x4_1<(l0.length : Int):=zy (by first|(with_reducible assumption)|assumption);obtain ⟨ad190,A190_1,c190_1,e190,hx190_0,hx190_1,hl190_1,hi190_1⟩:=at_T79 HR0.out x4_1 p190 q190
        cases e190
        replace hx190_0:=(HB.out.cell (zl w _ hx190_0)).trans hx190_0;replace hx190_1:=(HB.out.cell (zl w _ hx190_1)).trans hx190_1;have HR190_1:=zh hi190_1;have HC190_1:=zh hl190_1;clear hi190_1 hl190_1;replace p190:=eq_true p190;replace q190:=eq_true q190
        go_wp2_with (first|((with_reducible refine zJ (f:=55) rfl ?_);refine yj (some 20) rfl rfl Try.func55 (by kernel_rfl) rfl #[.agg #[.int .i64 ((rd_T79 l0 x4_1).f0),.slice A190_1 ((rd_T79 l0 x4_1).f1).length c190_1]] rfl (by (try simp only [zt,zu,zv]);first|done|rfl|(simp only [zw,zx];rfl)|(simp only [yr,ys,zV,zW];rfl)) ?_;(with_reducible refine (Fg.calls k1  ((rd_T79 l0 x4_1).f0) _ _ ((rd_T79 l0 x4_1).f1) t191 t192 _ ?side1 ?side2 A8.out).mono ?_);(case side1 => repeat (first|exact (Kd.C_below HR190_1.out HB.out)|(with_reducible refine Kd.C_alloc ?_ _)|(with_reducible refine Kd.C_drewN ?_ _)|(with_reducible refine Kd.C_drew ?_)));(case side2 => exact HC190_1.out);rintro e w11 ⟨v193,rfl,ho0,hb⟩;refine ⟨_,rfl,?_⟩;replace HO_3:=zh (Kd.S_elder' (by (with_reducible repeat (first|apply Kd.S_alloc|apply Kd.S_drewN|apply Kd.S_drew));exact HO_3.out) (Kd.R_base ho0) hb);have HO194:=zh (yx ho0 (zB (by repeat (with_reducible first|exact HB.out|apply za|apply zb|apply zc))));replace HB:=zh (zC (by repeat (with_reducible first|exact HB.out|apply za|apply zb|apply zc)) hb);(try clear hb);(try clear hb2);(try clear hk);(try clear hi);(try clear ho0);have p10 : 0≤(x4_1 : Int):=zy (by first|(with_reducible assumption)|assumption);have q10 : (x4_1 : Int)<((x3_1.length : Int) : Int):=zy (by first|(with_reducible assumption)|assumption);obtain ⟨go10,co10,eo10,gb10,gl10,cl10,HG10⟩:=Kd.S_form HO_3.out (by omega);(first|cases eo10|(injection eo10 with ea_ en_ ec_;(first|subst ea_|(injection ea_ with ea_;subst ea_));subst ec_;clear en_));have GB10:=zh gb10;have GG10:=zh HG10;clear gb10 gl10 HG10;obtain ⟨_,ce10,hcl10,hM10,hcc10,hfr10,_,_⟩:=Kd.S_elem HO_3.out z67 (x4_1 : Int) p10 q10;obtain ⟨ve10_1,rfl,ge10_1⟩:=k67_openM hM10;have hx10_0 : w11.cell? ⟨go10,(x4_1 : Int).toNat * 2,none⟩=some (.int .i64 ((rd_T67 x3_1 x4_1).f0)):=hcc10 0 _ rfl;have hx10_1 : w11.cell? ⟨go10,(x4_1 : Int).toNat * 2 + 1,none⟩=some (ve10_1):=hcc10 1 _ rfl;have hf10_0 : w11.frozen? ⟨go10,(x4_1 : Int).toNat * 2,none⟩=false:=hfr10 0;have hf10_1 : w11.frozen? ⟨go10,(x4_1 : Int).toNat * 2 + 1,none⟩=false:=hfr10 1;clear hcl10 hcc10 hfr10 hM10;replace p10:=eq_true p10;replace q10:=eq_true q10;obtain ⟨Ao12,co12,eo12⟩:=yk HO194.out;subst eo12;have n_:=zh (Kd.S_mono (ok':=(fun k_ => some k_≠(.slice Ao12 t192.length co12 : Value).ownBlock)) HO_3.out (fun k_ hk => hk.2));clear HO_3;have HO_3:=n_;clear n_;have HX13:=zh (show Kd.S k67 67 w11 w.heap.size (fun k_ => ((fun _ => True)) k_ ∧ ¬ ((fun k_ => some k_=(.slice Ao12 t192.length co12 : Value).ownBlock)) k_) (.slice (some ⟨go10,0,none⟩) x3_1.length co10) x3_1 from (by (with_reducible repeat (first|apply Kd.S_alloc|apply Kd.S_drewN|apply Kd.S_drew));exact Kd.S_mono HO_3.out (fun k_ hk => ⟨trivial,fun e_ => hk e_⟩)));obtain ⟨oki13,ce13,hcl13,hM13,hcc13,hfr13,hoki13,hH13⟩:=Kd.S_elem HX13.out z67 (x4_1 : Int) (zy (by first|(with_reducible assumption)|assumption)) (by have h_ : (x4_1 : Int)<((x3_1.length : Int) : Int):=zy (by first|(with_reducible assumption)|assumption);first|exact h_|(have e_:=(Kd.S_reads' HO_3.out).1;omega)|simpa using h_);obtain ⟨ve13_1,rfl,ge13_1⟩:=k67_openM hM13;have HP13:=Kd.S_seg hH13 (zy (by first|(with_reducible assumption)|assumption)) (by have h_ : (x4_1 : Int)<((x3_1.length : Int) : Int):=zy (by first|(with_reducible assumption)|assumption);first|exact h_|(have e_:=(Kd.S_reads' HO_3.out).1;omega)|simpa using h_) (seg:=[.int .i64 t191,.slice Ao12 t192.length co12]) (j:=0) (show 2≤2 from by decide) (x':=(⟨t191,t192⟩ : S67)) (k67_mkM _ _ _ (⟨t191,t192⟩ : S67) (zM (Kd.R_tight rfl (zM (ok':=fun k_ => ((fun _ => True)) k_∧k_≠go10) (Kd.R_apart' (HO194.out) (Kd.S_typed HO_3.out) (by decide)) (fun k_ hk => ⟨trivial,fun e_ => (hk.2) (by rw [e_];rfl)⟩))) (fun _ h_ => Or.inr (h_)))) (fun _ hk => hk) (fun k_ hk_ => ((zM (ok':=fun k_ => ((fun _ => True)) k_∧k_≠go10) (Kd.R_apart' (HO194.out) (Kd.S_typed HO_3.out) (by decide)) (fun k_ hk => ⟨trivial,fun e_ => (hk.2) (by rw [e_];rfl)⟩))).1 k_ hk_.symm);have hx13_0:=hcc13 0 _ rfl;(try simp only [show (k67).sz=2 from rfl,Nat.mul_one,Nat.add_zero] at hx13_0);have hf13_0:=hfr13 0;(try simp only [show (k67).sz=2 from rfl,Nat.mul_one,Nat.add_zero] at hf13_0);have hx13_1:=hcc13 1 _ rfl;(try simp only [show (k67).sz=2 from rfl,Nat.mul_one,Nat.add_zero] at hx13_1);have hf13_1:=hfr13 1;(try simp only [show (k67).sz=2 from rfl,Nat.mul_one,Nat.add_zero] at hf13_1);clear hcl13 hcc13 hfr13 hM13 hoki13 hH13)|((with_reducible refine gate_store (t:=67) (p:=21) rfl ?_);refine store_event (t:=67) (p:=21) (v:=?vo_w14) (w1:=((w11.setCell ⟨go10,(x4_1 : Int).toNat * 2,none⟩ (.int .i64 t191)).setCell ⟨go10,(x4_1 : Int).toNat * 2 + 1,none⟩ (.slice Ao12 t192.length co12))) ?hg ?ho ?hn ?hr ?_;(case ho => rfl);(case hg => rfl);(case hn => rfl);(case hr => go_simp <;> rfl);intro w14 hw;have hg : w11.grownBy w14 (some go10):=(by rw [hw];exact HP13.2);have hp_ : Kd.S k67 67 w14 w.heap.size (fun _ => True) (.slice (some ⟨go10,0,none⟩) x3_1.length co10) y195:=(by rw [hw,Ny195.out];exact HP13.1);clear HP13;replace HO_3:=zh (hp_);replace HB:=zh ((by rw [hw];exact zd (zd (HB.out) GB10.out) GB10.out : Below w.heap.size w w14));clear HO194 hg hw hp_))
        go_roundg k1
        case measure => have:=HK1.out;omega
        case rel => exact ⟨(y195),(wrap64 (x4_1 + 1)),(by first|rfl|(simp;done)|(simp [*];done)),H',⟨by have:=HK1.out;omega⟩,⟨by (with_reducible repeat (first|apply Kd.S_alloc|apply Kd.S_drewN|apply Kd.S_drew));exact HO_3.out⟩,⟨by repeat (with_reducible first|exact HB.out|apply za|apply zb|apply zc)⟩⟩
       rw [if_neg c9] at H;exact absurd H (by simp)
      rw [if_neg c7] at H;exact absurd H (by simp)
     rw [if_neg c6] at H;have c6b0 : decide (x4_1<(l0.length : Int))=false:=decide_eq_false c6;clear c6;obtain rfl:=zU H
     go_wp2
     go_ret
     exact ⟨_,by first|rfl|(simp [yt,yu] <;> rfl)|(simp [*,yt,yu] <;> rfl),by (with_reducible repeat (first|apply Kd.S_alloc|apply Kd.S_drewN|apply Kd.S_drew));exact HO_3.out,by repeat (with_reducible first|exact HB.out|apply za|apply zb|apply zc)⟩
  rw [if_neg c3] at H;exact absurd H (by simp)
 rw [if_neg c2] at H;exact absurd H (by simp)


def Fp.f (k : Nat) (l0_0 : List (S79)) (a0_1 : Int) : Option ((List (S67))×Int):=(Ft.f k l0_0).bind fun t199 => (some (t199,a0_1))
theorem Fp.mono : ∀ a0 a1 k,LeO (Fp.f k a0 a1) (Fp.f (k + 1) a0 a1):=by
 intro a0 a1 k;unfold Fp.f
 repeat' first|(with_reducible first|exact Ft.mono _ _|exact zQ _|exact zN _|refine zP ?_ ?_|refine zO ?_ (fun _ => ?_))|refine zP ?_ ?_|refine zO ?_ (fun _ => ?_)
set_option maxHeartbeats 8000000 in
set_option maxRecDepth 100000 in
theorem Fp.calls (k : Nat) (A0_0 : Option Addr) (c0_0 : Nat) (l0_0 : List (S79)) (a0_1 : Int) (r1 : List (S67)) (r2 : Int) (w : World) (hr0_0 : Kd.C k79 w A0_0 l0_0.length l0_0) (hc0_0 : l0_0.length≤c0_0) (h : Fp.f k l0_0 a0_1=some (r1,r2)) :
  Calls Try.prog 9 #[.agg #[.slice A0_0 l0_0.length c0_0,.int .i64 a0_1]] w fun e w' => ∃ v0_ : Value,e = .returned (.agg #[v0_,.int .i64 r2])∧Kd.S k67 67 w' w.heap.size (fun _ => True) v0_ r1∧Below w.heap.size w w':=by
 have hu24:=Try.underlying24;have hu35:=Try.underlying35;have HR0_0:=zh hr0_0;have HC0_0:=zh hc0_0;clear hr0_0 hc0_0;have HB:=zh (Below.refl w.heap.size w);have H : ((Ft.f k l0_0).bind fun t199 => (some (t199,a0_1)))=some (r1,r2):=h;clear h;replace H:=zT.mp H;obtain ⟨t199,A20,H⟩:=H;replace H : (some (t199,a0_1))=some (r1,r2):=H;have A2:=zh A20;clear A20;simp only [Option.some.injEq,Prod.mk.injEq] at H;obtain ⟨rfl,rfl⟩:=H
 go_enter Try.func9,Try.ntmps9
 go_wp2_with (first|((with_reducible refine zK (N:=1) rfl ?_);refine zI ?hg (N:=1) ?hd (cs:=#[.slice A0_0 l0_0.length c0_0,.int .i64 a0_1]) (t:=24) ?hr ?_;(case hd|hg => rfl);(case hr => go_simp <;> rfl);intro gb196 hg w3 hbox hb;have BK196:=zh (hbox);have hH_:=cH (by repeat (with_reducible first|exact HB.out|apply za|apply zb|apply zc)) hb hg;have GW196:=zh hH_.1;have GE196:=GW196;replace HB:=zh hH_.2;clear hb hbox hg hH_)|((with_reducible refine zK (N:=2) rfl ?_);refine zI ?hg (N:=2) ?hd (cs:=#[.slice none 0 0,.int .i64 0]) (t:=35) ?hr ?_;(case hd|hg => rfl);(case hr => go_simp <;> rfl);intro gb197 hg w4 hbox hb;have BK197:=zh (hbox);have hH_:=cH (by repeat (with_reducible first|exact HB.out|apply za|apply zb|apply zc|refine zd ?_ GE196.out)) hb hg;have GW197:=zh hH_.1;have GE197:=GW197;replace HB:=zh hH_.2;have NB196_197:=zh ((by rw [hg];exact yc (yi (g:=gb196) (o:=.cells #[.slice A0_0 l0_0.length c0_0,.int .i64 a0_1] 24 (0,0)) (by (with_reducible repeat first|apply ze|apply zf|apply zg);exact BK196.out)) : gb196≠gb197));have NB197_196:=zh NB196_197.out.symm;replace BK196:=zh (cD BK196.out (by (with_reducible repeat first|apply ze|apply zf|apply zg);exact BK196.out) hb);clear hb hbox hg hH_)|((with_reducible refine zK (N:=3) rfl ?_);refine zI ?hg (N:=3) ?hd (cs:=#[.slice none 0 0,.int .i64 0]) (t:=35) ?hr ?_;(case hd|hg => rfl);(case hr => go_simp <;> rfl);intro gb198 hg w5 hbox hb;have BK198:=zh (hbox);have hH_:=cH (by repeat (with_reducible first|exact HB.out|apply za|apply zb|apply zc|refine zd ?_ GE196.out|refine zd ?_ GE197.out)) hb hg;have GW198:=zh hH_.1;have GE198:=GW198;replace HB:=zh hH_.2;have NB196_198:=zh ((by rw [hg];exact yc (yi (g:=gb196) (o:=.cells #[.slice A0_0 l0_0.length c0_0,.int .i64 a0_1] 24 (0,0)) (by (with_reducible repeat first|apply ze|apply zf|apply zg);exact BK196.out)) : gb196≠gb198));have NB198_196:=zh NB196_198.out.symm;replace BK196:=zh (cD BK196.out (by (with_reducible repeat first|apply ze|apply zf|apply zg);exact BK196.out) hb);have NB197_198:=zh ((by rw [hg];exact yc (yi (g:=gb197) (o:=.cells #[.slice none 0 0,.int .i64 0] 35 (0,0)) (by (with_reducible repeat first|apply ze|apply zf|apply zg);exact BK197.out)) : gb197≠gb198));have NB198_197:=zh NB197_198.out.symm;replace BK197:=zh (cD BK197.out (by (with_reducible repeat first|apply ze|apply zf|apply zg);exact BK197.out) hb);clear hb hbox hg hH_;have hnb6:=NB196_197.out;have hnc6:=NB197_196.out;have hnb7:=NB196_198.out;have hnc7:=NB198_196.out;obtain ⟨hcz8_0,hcz8_1,hfz8_0,hfz8_1⟩:=cB2 BK196.out)|((with_reducible refine zJ (f:=30) rfl ?_);refine yj (some 6) rfl rfl Try.func30 (by kernel_rfl) rfl #[.slice A0_0 l0_0.length c0_0] rfl (by (try simp only [zt,zu,zv]);first|done|rfl|(simp only [zw,zx];rfl)|(simp only [yr,ys,zV,zW];rfl)) ?_;(with_reducible refine (Ft.calls k  _ _ l0_0 t199 _ ?side1 ?side2 A2.out).mono ?_);(case side1 => repeat (first|exact (Kd.C_below HR0_0.out HB.out)|(with_reducible refine Kd.C_alloc ?_ _)|(with_reducible refine Kd.C_drewN ?_ _)|(with_reducible refine Kd.C_drew ?_)));(case side2 => exact HC0_0.out);rintro e w9 ⟨v200,rfl,ho0,hb⟩;refine ⟨_,rfl,?_⟩;have HO201:=zh (Kd.S_lower ho0 (zB (by repeat (with_reducible first|exact HB.out|apply za|apply zb|apply zc|refine zd ?_ GE196.out|refine zd ?_ GE197.out|refine zd ?_ GE198.out))));replace BK196:=zh (cD BK196.out (by (with_reducible repeat first|apply ze|apply zf|apply zg);exact BK196.out) hb);replace BK197:=zh (cD BK197.out (by (with_reducible repeat first|apply ze|apply zf|apply zg);exact BK197.out) hb);replace BK198:=zh (cD BK198.out (by (with_reducible repeat first|apply ze|apply zf|apply zg);exact BK198.out) hb);replace HB:=zh (zC (by repeat (with_reducible first|exact HB.out|apply za|apply zb|apply zc|refine zd ?_ GE196.out|refine zd ?_ GE197.out|refine zd ?_ GE198.out)) hb);(try clear hb);(try clear hb2);(try clear hk);(try clear hi);(try clear ho0);obtain ⟨Ao10,co10,eo10⟩:=Kd.S_slice HO201.out;subst eo10;have hnb11:=NB198_197.out;have hnc11:=NB197_198.out;obtain ⟨hcz12_0,hcz12_1,hfz12_0,hfz12_1⟩:=cB2 BK198.out;obtain ⟨hcz13_0,hcz13_1,hfz13_0,hfz13_1⟩:=cB2 BK196.out;obtain ⟨hcz14_0,hcz14_1,hfz14_0,hfz14_1⟩:=cB2 BK197.out))
 refine bodyPost_ret (results_cell_row rfl _ _ gb197 35 #[.slice Ao10 t199.length co10,.int .i64 a0_1] (0,0) _ rfl (by (with_reducible repeat first|apply ze|apply zf|apply zg);refine zL (cs:=#[.slice Ao10 t199.length co10,.int .i64 0]) ?_ 1 _ rfl;(with_reducible repeat first|apply ze|apply zf|apply zg);refine zL (cs:=#[.slice none 0 0,.int .i64 0]) ?_ 0 _ rfl;(with_reducible repeat first|apply ze|apply zf|apply zg);refine cS2 ?_ NB197_198.out;(with_reducible repeat first|apply ze|apply zf|apply zg);exact BK197.out) Try.underlying35 rfl (by kernel_rfl)) rfl ?_;exact ⟨_,by first|rfl|(simp [yt,yu] <;> rfl)|(simp [*,yt,yu] <;> rfl),by (with_reducible repeat (first|apply Kd.S_alloc|apply Kd.S_drewN|apply Kd.S_drew));exact Kd.S_mono (Kd.S_far (p:=⟨gb197,1,none⟩) (Kd.S_far (p:=⟨gb197,0,none⟩) (Kd.S_far (p:=⟨gb198,1,none⟩) (Kd.S_far (p:=⟨gb198,0,none⟩) (Kd.S_types (Kd.S_types HO201.out BK198.out (by decide)) BK197.out (by decide)) (fun _ hk => hk.1.2) (.slice Ao10 t199.length co10)) (fun _ hk => hk.1.2) (.int .i64 a0_1)) (fun _ hk => hk.2) (.slice Ao10 t199.length co10)) (fun _ hk => hk.2) (.int .i64 a0_1)) (fun _ hk => trivial),by repeat (with_reducible first|exact HB.out|apply za|apply zb|apply zc|refine zd ?_ GE196.out|refine zd ?_ GE197.out|refine zd ?_ GE198.out)⟩

end Go.Proofs.Ytamikhmpfmgofaa.Q
end
section
namespace Go.Proofs.Ytamikhmpfmgofaa.Q
open Go.RowKit Go.Proofs.YtamikhmpfmgofaaW.PrintWords Go.Proofs.YtamikhmpfmgofaaW.PrintLast Go.Proofs.YtamikhmpfmgofaaW.PrintMore
attribute [local go_sem] max2_int min2_int max_two min_two max_three min_three max_four min_four max2_str min2_str str_geq str_gtr str_leq   -- for this text's walks alone
set_option linter.unusedVariables false
set_option linter.unusedSimpArgs false

mutual
def F0.j0 : Nat→List (S51)→List Int→Int→List (S51)→List Int→Int→Bool→List (S79)→Int→ByteArray→ByteArray→Bool→List (S67)→Int→Option (Bool)
 | 0,_,_,_,_,_,_,_,_,_,_,_,_,_,_ => none
 | k + 1,x6,x7,x8,x10,x11,x12,x62,x321000,x321001,x322000,x322001,x322002,x343000,x343001 => if x62=true then (some false) else ((Fp.f k x321000 x321001).bind fun bt355 => ((F06.f k x343000 x343001 bt355.1 bt355.2).bind fun t359 => (if t359=true then ((Fq.f k x343000 x343001 1).bind fun t360 => (if t360<0 then (F0.j1 k x6 x7 x8 x10 x11 true x321000 x321001 x322000 x322001 x322002) else ((F8.f k x10 x6).bind fun t361 => (if t361=true then ((Fa.f k x11 x7).bind fun t362 => (if t362=true then (F0.j1 k x6 x7 x8 x10 x11 (x12 != x8) x321000 x321001 x322000 x322001 x322002) else (F0.j1 k x6 x7 x8 x10 x11 true x321000 x321001 x322000 x322001 x322002))) else (F0.j1 k x6 x7 x8 x10 x11 true x321000 x321001 x322000 x322001 x322002))))) else (some false))))
def F0.j1 : Nat→List (S51)→List Int→Int→List (S51)→List Int→Bool→List (S79)→Int→ByteArray→ByteArray→Bool→Option (Bool)
 | 0,_,_,_,_,_,_,_,_,_,_,_ => none
 | k + 1,x6,x7,x8,x10,x11,x89,x321000,x321001,x322000,x322001,x322002 => if x89=true then (some false) else ((Fk.f k x10 1).bind fun bt363 => ((Fo.f k x11 bt363.1).bind fun bt365 => ((Fc.f k bt363.2 1).bind fun t367 => (if t367<0 then (some false) else ((Fi.f k bt365.2 t367).bind fun t368 => (if t368<0 then (some false) else (if t368=bt365.1 then ((Fp.f k x321000 x321001).bind fun bt369 => ((Fz.f x322000 x322001 x322002).bind fun bt373 => ((F9.f k bt369.1 bt369.2 bt373.1 bt373.2.1 bt373.2.2).bind fun bt376 => ((F8.f k bt376.1 x6).bind fun t383 => (if t383=true then ((Fa.f k bt376.2.1 x7).bind fun t384 => (if t384=true then (F0.j2 k bt363.2 bt365.2 bt365.1 (bt376.2.2 != x8)) else (F0.j2 k bt363.2 bt365.2 bt365.1 true))) else (F0.j2 k bt363.2 bt365.2 bt365.1 true)))))) else (some false))))))))
def F0.j2 : Nat→List (S51)→List Int→Int→Bool→Option (Bool)
 | 0,_,_,_,_ => none
 | k + 1,x10,x11,x14,x132 => if x132=true then (some false) else ((Fc.f k x10 1).bind fun t385 => (if t385<0 then (some false) else ((Fi.f k x11 t385).bind fun t386 => (if t386<0 then (some false) else (if t386=x14 then (some true) else (some false))))))
end
def F0.f (k : Nat) (l0_0 : List (S79)) (a0_1 : Int) (a1_0 : ByteArray) (a1_1 : ByteArray) (a1_2 : Bool) : Option (Bool):=(F07.f k l0_0 a0_1 1048576).bind fun t322 => (if t322<0 then (some true) else ((F09.f a1_0 a1_1 a1_2 t322).bind fun t323 => (if t323<0 then (some true) else ((Fp.f k l0_0 a0_1).bind fun bt324 => ((Fz.f a1_0 a1_1 a1_2).bind fun bt328 => ((F05.f k bt324.1 bt324.2 bt328.1 bt328.2.1 bt328.2.2).bind fun bt331 => ((Fp.f k l0_0 a0_1).bind fun bt338 => ((Fz.f a1_0 a1_1 a1_2).bind fun bt343 => ((F9.f k bt338.1 bt338.2 bt343.1 bt343.2.1 bt343.2.2).bind fun bt346 => ((F8.f k bt346.1 bt331.1).bind fun t353 => (if t353=true then ((Fa.f k bt346.2.1 bt331.2.1).bind fun t354 => (if t354=true then (F0.j0 k bt331.1 bt331.2.1 bt331.2.2 bt346.1 bt346.2.1 bt346.2.2 (bt346.2.2 != bt331.2.2) l0_0 a0_1 a1_0 a1_1 a1_2 bt338.1 bt338.2) else (F0.j0 k bt331.1 bt331.2.1 bt331.2.2 bt346.1 bt346.2.1 bt346.2.2 true l0_0 a0_1 a1_0 a1_1 a1_2 bt338.1 bt338.2))) else (F0.j0 k bt331.1 bt331.2.1 bt331.2.2 bt346.1 bt346.2.1 bt346.2.2 true l0_0 a0_1 a1_0 a1_1 a1_2 bt338.1 bt338.2))))))))))))
theorem F0.mono_l : ∀ k,(∀ y0 y1 y2 y3 y4 y5 y6 y7 y8 y9 y10 y11 y12 y13,LeO (F0.j0 k y0 y1 y2 y3 y4 y5 y6 y7 y8 y9 y10 y11 y12 y13) (F0.j0 (k + 1) y0 y1 y2 y3 y4 y5 y6 y7 y8 y9 y10 y11 y12 y13))∧(∀ y0 y1 y2 y3 y4 y5 y6 y7 y8 y9 y10,LeO (F0.j1 k y0 y1 y2 y3 y4 y5 y6 y7 y8 y9 y10) (F0.j1 (k + 1) y0 y1 y2 y3 y4 y5 y6 y7 y8 y9 y10))∧(∀ y0 y1 y2 y3,LeO (F0.j2 k y0 y1 y2 y3) (F0.j2 (k + 1) y0 y1 y2 y3))
 | 0 => ⟨fun _ _ _ _ _ _ _ _ _ _ _ _ _ _ r h => by simp [F0.j0] at h,fun _ _ _ _ _ _ _ _ _ _ _ r h => by simp [F0.j1] at h,fun _ _ _ _ r h => by simp [F0.j2] at h⟩
 | k + 1 => by
  obtain ⟨ih0,ih1,ih2⟩:=F0.mono_l k;refine ⟨?_,?_,?_⟩
  ·
   intro y0 y1 y2 y3 y4 y5 y6 y7 y8 y9 y10 y11 y12 y13
   unfold F0.j0
   repeat' first|(with_reducible first|exact ih0 _ _ _ _ _ _ _ _ _ _ _ _ _ _|exact ih1 _ _ _ _ _ _ _ _ _ _ _|exact ih2 _ _ _ _|exact F07.mono _ _ _ _|exact F05.mono _ _ _ _ _ _|exact Fp.mono _ _ _|exact F9.mono _ _ _ _ _ _|exact F8.mono _ _ _|exact Fa.mono _ _ _|exact F06.mono _ _ _ _ _|exact Fq.mono _ _ _ _|exact Fk.mono _ _ _|exact Fo.mono _ _ _|exact Fc.mono _ _ _|exact Fi.mono _ _ _|exact zQ _|exact zN _|refine zP ?_ ?_|refine zO ?_ (fun _ => ?_))|refine zP ?_ ?_|refine zO ?_ (fun _ => ?_)
  ·
   intro y0 y1 y2 y3 y4 y5 y6 y7 y8 y9 y10
   unfold F0.j1
   repeat' first|(with_reducible first|exact ih0 _ _ _ _ _ _ _ _ _ _ _ _ _ _|exact ih1 _ _ _ _ _ _ _ _ _ _ _|exact ih2 _ _ _ _|exact F07.mono _ _ _ _|exact F05.mono _ _ _ _ _ _|exact Fp.mono _ _ _|exact F9.mono _ _ _ _ _ _|exact F8.mono _ _ _|exact Fa.mono _ _ _|exact F06.mono _ _ _ _ _|exact Fq.mono _ _ _ _|exact Fk.mono _ _ _|exact Fo.mono _ _ _|exact Fc.mono _ _ _|exact Fi.mono _ _ _|exact zQ _|exact zN _|refine zP ?_ ?_|refine zO ?_ (fun _ => ?_))|refine zP ?_ ?_|refine zO ?_ (fun _ => ?_)
  intro y0 y1 y2 y3;unfold F0.j2
  repeat' first|(with_reducible first|exact ih0 _ _ _ _ _ _ _ _ _ _ _ _ _ _|exact ih1 _ _ _ _ _ _ _ _ _ _ _|exact ih2 _ _ _ _|exact F07.mono _ _ _ _|exact F05.mono _ _ _ _ _ _|exact Fp.mono _ _ _|exact F9.mono _ _ _ _ _ _|exact F8.mono _ _ _|exact Fa.mono _ _ _|exact F06.mono _ _ _ _ _|exact Fq.mono _ _ _ _|exact Fk.mono _ _ _|exact Fo.mono _ _ _|exact Fc.mono _ _ _|exact Fi.mono _ _ _|exact zQ _|exact zN _|refine zP ?_ ?_|refine zO ?_ (fun _ => ?_))|refine zP ?_ ?_|refine zO ?_ (fun _ => ?_)
theorem F0.mono : ∀ a0 a1 a2 a3 a4 k,LeO (F0.f k a0 a1 a2 a3 a4) (F0.f (k + 1) a0 a1 a2 a3 a4):=by
 intro a0 a1 a2 a3 a4 k;obtain ⟨ih0,ih1,ih2⟩:=F0.mono_l k;unfold F0.f
 repeat' first|(with_reducible first|exact ih0 _ _ _ _ _ _ _ _ _ _ _ _ _ _|exact ih1 _ _ _ _ _ _ _ _ _ _ _|exact ih2 _ _ _ _|exact F07.mono _ _ _ _|exact F05.mono _ _ _ _ _ _|exact Fp.mono _ _ _|exact F9.mono _ _ _ _ _ _|exact F8.mono _ _ _|exact Fa.mono _ _ _|exact F06.mono _ _ _ _ _|exact Fq.mono _ _ _ _|exact Fk.mono _ _ _|exact Fo.mono _ _ _|exact Fc.mono _ _ _|exact Fi.mono _ _ _|exact zQ _|exact zN _|refine zP ?_ ?_|refine zO ?_ (fun _ => ?_))|refine zP ?_ ?_|refine zO ?_ (fun _ => ?_)
def F0.T8 : Bool×List (List Nat×List Nat):=(true,[([],[]),([0],[0]),([],[]),([2,1],[2]),([1,3,3],[1,3]),([4],[4]),([5],[5]),([5],[5]),([5],[5]),([6,4,0,1,2,3,4,5,6],[6]),([7,9,0,1,2,3,4,5,6,7,9],[7]),([8,10,0,1,2,3,4,5,6,7,8,9,10],[8])])
def F0.B8 : List Nat:=[0,1,0,7,15,31,63,63,63,127,767,2047]
theorem F0.tab8 : rtab .any (opsOf Try.f3 8)=F0.T8:=by kernel_rfl
theorem F0.bits8 : waitsOk F0.T8.2 F0.B8=true:=by kernel_rfl
def F0.T10 : Bool×List (List Nat×List Nat):=(true,[([],[]),([],[]),([1],[1]),([0,2,2],[0,2]),([3],[3]),([4],[4]),([4],[4]),([4],[4]),([5,3,0,1,2,3,4,5],[5]),([6,8,0,1,2,3,4,5,6,8],[6]),([7,9,0,1,2,3,4,5,6,7,8,9],[7])])
def F0.B10 : List Nat:=[0,0,2,7,15,31,31,31,63,383,1023]
theorem F0.tab10 : rtab .any (opsOf Try.f3 10)=F0.T10:=by kernel_rfl
theorem F0.bits10 : waitsOk F0.T10.2 F0.B10=true:=by kernel_rfl
def F0.T31 : Bool×List (List Nat×List Nat):=(true,[([],[]),([0],[0]),([],[]),([2,1],[2]),([1,3,3],[1,3]),([4],[4]),([5],[5]),([5],[5]),([5],[5]),([6,4,0,1,2,3,4,5,6],[6]),([7,9,0,1,2,3,4,5,6,7,9],[7]),([8,10,0,1,2,3,4,5,6,7,8,9,10],[8])])
def F0.B31 : List Nat:=[0,1,0,7,15,31,63,63,63,127,767,2047]
theorem F0.tab31 : rtab .any (opsOf Try.f3 31)=F0.T31:=by kernel_rfl
theorem F0.bits31 : waitsOk F0.T31.2 F0.B31=true:=by kernel_rfl
theorem F0.j0_no8 : ∀ (k : Nat) y0 y1 y2 y3 y4 y5 y6 y7 y8 y9 y10 y11 y12,F0.j0 k y0 y1 y2 y3 y4 y5 true y6 y7 y8 y9 y10 y11 y12≠some true:=by
 intro k
 cases k <;> intros <;> simp [F0.j0]
theorem F0.j1_no7 : ∀ (k : Nat) y0 y1 y2 y3 y4 y5 y6 y7 y8 y9,F0.j1 k y0 y1 y2 y3 y4 true y5 y6 y7 y8 y9≠some true:=by
 intro k
 cases k <;> intros <;> simp [F0.j1]
theorem F0.j2_no5 : ∀ (k : Nat) y0 y1 y2,F0.j2 k y0 y1 y2 true≠some true:=by
 intro k
 cases k <;> intros <;> simp [F0.j2]
set_option maxHeartbeats 8000000 in
set_option maxRecDepth 100000 in
theorem F0.calls (k : Nat) (A0_0 : Option Addr) (c0_0 : Nat) (l0_0 : List (S79)) (a0_1 : Int) (a1_0 : ByteArray) (a1_1 : ByteArray) (a1_2 : Bool) (r : Bool) (w : World) (hr0_0 : Kd.C k79 w A0_0 l0_0.length l0_0) (hc0_0 : l0_0.length≤c0_0) (h : F0.f k l0_0 a0_1 a1_0 a1_1 a1_2=some r) (hr_ : r=true) :
  Calls Try.prog 3 #[.agg #[.slice A0_0 l0_0.length c0_0,.int .i64 a0_1],.agg #[.string a1_0,.string a1_1,.bool a1_2]] w fun e w' => e = .returned (.bool r)∧Below w.heap.size w w':=by
 have hu24:=Try.underlying24;have hu26:=Try.underlying26;have hu35:=Try.underlying35;have HR0_0:=zh hr0_0;have HC0_0:=zh hc0_0;clear hr0_0 hc0_0;have HB:=zh (Below.refl w.heap.size w);have H : ((F07.f k l0_0 a0_1 1048576).bind fun t322 => (if t322<0 then (some true) else ((F09.f a1_0 a1_1 a1_2 t322).bind fun t323 => (if t323<0 then (some true) else ((Fp.f k l0_0 a0_1).bind fun bt324 => ((Fz.f a1_0 a1_1 a1_2).bind fun bt328 => ((F05.f k bt324.1 bt324.2 bt328.1 bt328.2.1 bt328.2.2).bind fun bt331 => ((Fp.f k l0_0 a0_1).bind fun bt338 => ((Fz.f a1_0 a1_1 a1_2).bind fun bt343 => ((F9.f k bt338.1 bt338.2 bt343.1 bt343.2.1 bt343.2.2).bind fun bt346 => ((F8.f k bt346.1 bt331.1).bind fun t353 => (if t353=true then ((Fa.f k bt346.2.1 bt331.2.1).bind fun t354 => (if t354=true then (F0.j0 k bt331.1 bt331.2.1 bt331.2.2 bt346.1 bt346.2.1 bt346.2.2 (bt346.2.2 != bt331.2.2) l0_0 a0_1 a1_0 a1_1 a1_2 bt338.1 bt338.2) else (F0.j0 k bt331.1 bt331.2.1 bt331.2.2 bt346.1 bt346.2.1 bt346.2.2 true l0_0 a0_1 a1_0 a1_1 a1_2 bt338.1 bt338.2))) else (F0.j0 k bt331.1 bt331.2.1 bt331.2.2 bt346.1 bt346.2.1 bt346.2.2 true l0_0 a0_1 a1_0 a1_1 a1_2 bt338.1 bt338.2)))))))))))))=some r:=h;clear h;replace H:=zT.mp H;obtain ⟨t322,A30,H⟩:=H;replace H : (if t322<0 then (some true) else ((F09.f a1_0 a1_1 a1_2 t322).bind fun t323 => (if t323<0 then (some true) else ((Fp.f k l0_0 a0_1).bind fun bt324 => ((Fz.f a1_0 a1_1 a1_2).bind fun bt328 => ((F05.f k bt324.1 bt324.2 bt328.1 bt328.2.1 bt328.2.2).bind fun bt331 => ((Fp.f k l0_0 a0_1).bind fun bt338 => ((Fz.f a1_0 a1_1 a1_2).bind fun bt343 => ((F9.f k bt338.1 bt338.2 bt343.1 bt343.2.1 bt343.2.2).bind fun bt346 => ((F8.f k bt346.1 bt331.1).bind fun t353 => (if t353=true then ((Fa.f k bt346.2.1 bt331.2.1).bind fun t354 => (if t354=true then (F0.j0 k bt331.1 bt331.2.1 bt331.2.2 bt346.1 bt346.2.1 bt346.2.2 (bt346.2.2 != bt331.2.2) l0_0 a0_1 a1_0 a1_1 a1_2 bt338.1 bt338.2) else (F0.j0 k bt331.1 bt331.2.1 bt331.2.2 bt346.1 bt346.2.1 bt346.2.2 true l0_0 a0_1 a1_0 a1_1 a1_2 bt338.1 bt338.2))) else (F0.j0 k bt331.1 bt331.2.1 bt331.2.2 bt346.1 bt346.2.1 bt346.2.2 true l0_0 a0_1 a1_0 a1_1 a1_2 bt338.1 bt338.2))))))))))))=some r:=H;have A3:=zh A30;clear A30
 by_cases c4 : t322<0
 ·
  rw [if_pos c4] at H
  have c4b0 : decide (t322<0)=true:=decide_eq_true c4;clear c4;obtain rfl:=zU H
  go_enter Try.func3,Try.ntmps3
  go_wp2_with (first|((with_reducible refine zK (N:=2) rfl ?_);refine zI ?hg (N:=2) ?hd (cs:=#[.slice A0_0 l0_0.length c0_0,.int .i64 a0_1]) (t:=24) ?hr ?_;(case hd|hg => rfl);(case hr => go_simp <;> rfl);intro gb320 hg w5 hbox hb;have BK320:=zh (hbox);have hH_:=cH (by repeat (with_reducible first|exact HB.out|apply za|apply zb|apply zc)) hb hg;have GW320:=zh hH_.1;have GE320:=GW320;replace HB:=zh hH_.2;clear hb hbox hg hH_)|((with_reducible refine zK (N:=3) rfl ?_);refine zI ?hg (N:=3) ?hd (cs:=#[.string a1_0,.string a1_1,.bool a1_2]) (t:=26) ?hr ?_;(case hd|hg => rfl);(case hr => go_simp <;> rfl);intro gb321 hg w6 hbox hb;have BK321:=zh (hbox);have hH_:=cH (by repeat (with_reducible first|exact HB.out|apply za|apply zb|apply zc|refine zd ?_ GE320.out)) hb hg;have GW321:=zh hH_.1;have GE321:=GW321;replace HB:=zh hH_.2;have NB320_321:=zh ((by rw [hg];exact yc (yi (g:=gb320) (o:=.cells #[.slice A0_0 l0_0.length c0_0,.int .i64 a0_1] 24 (0,0)) (by (with_reducible repeat first|apply ze|apply zf|apply zg);exact BK320.out)) : gb320≠gb321));have NB321_320:=zh NB320_321.out.symm;replace BK320:=zh (cD BK320.out (by (with_reducible repeat first|apply ze|apply zf|apply zg);exact BK320.out) hb);clear hb hbox hg hH_;have hnb7:=NB320_321.out;have hnc7:=NB321_320.out;obtain ⟨hcz8_0,hcz8_1,hfz8_0,hfz8_1⟩:=cB2 BK320.out)|((with_reducible refine zJ (f:=6) rfl ?_);refine yj (some 21) rfl rfl Try.func6 (by kernel_rfl) rfl #[.agg #[.slice A0_0 l0_0.length c0_0,.int .i64 a0_1],.int .i64 1048576] rfl (by (try simp only [zt,zu,zv]);first|done|rfl|(simp only [zw,zx];rfl)|(simp only [yr,ys,zV,zW];rfl)) ?_;(with_reducible refine (F07.calls k  _ _ l0_0 a0_1 1048576 t322 _ ?side1 ?side2 A3.out).mono ?_);(case side1 => repeat (first|exact (Kd.C_below HR0_0.out HB.out)|(with_reducible refine Kd.C_alloc ?_ _)|(with_reducible refine Kd.C_drewN ?_ _)|(with_reducible refine Kd.C_drew ?_)));(case side2 => exact HC0_0.out);rintro e w9 ⟨rfl,hb⟩;refine ⟨_,rfl,?_⟩;replace BK320:=zh (cD BK320.out (by (with_reducible repeat first|apply ze|apply zf|apply zg);exact BK320.out) hb);replace BK321:=zh (cD BK321.out (by (with_reducible repeat first|apply ze|apply zf|apply zg);exact BK321.out) hb);replace HB:=zh (zC (by repeat (with_reducible first|exact HB.out|apply za|apply zb|apply zc|refine zd ?_ GE320.out|refine zd ?_ GE321.out)) hb);(try clear hb);(try clear hb2);(try clear hk);(try clear hi)))
  go_ret
  exact ⟨by first|rfl|(simp [yt,yu] <;> rfl)|(simp [*,yt,yu] <;> rfl),by repeat (with_reducible first|exact HB.out|apply za|apply zb|apply zc|refine zd ?_ GE320.out|refine zd ?_ GE321.out)⟩
 rw [if_neg c4] at H;have c4b0 : decide (t322<0)=false:=decide_eq_false c4;clear c4;replace H:=zT.mp H;obtain ⟨t323,A100,H⟩:=H;replace H : (if t323<0 then (some true) else ((Fp.f k l0_0 a0_1).bind fun bt324 => ((Fz.f a1_0 a1_1 a1_2).bind fun bt328 => ((F05.f k bt324.1 bt324.2 bt328.1 bt328.2.1 bt328.2.2).bind fun bt331 => ((Fp.f k l0_0 a0_1).bind fun bt338 => ((Fz.f a1_0 a1_1 a1_2).bind fun bt343 => ((F9.f k bt338.1 bt338.2 bt343.1 bt343.2.1 bt343.2.2).bind fun bt346 => ((F8.f k bt346.1 bt331.1).bind fun t353 => (if t353=true then ((Fa.f k bt346.2.1 bt331.2.1).bind fun t354 => (if t354=true then (F0.j0 k bt331.1 bt331.2.1 bt331.2.2 bt346.1 bt346.2.1 bt346.2.2 (bt346.2.2 != bt331.2.2) l0_0 a0_1 a1_0 a1_1 a1_2 bt338.1 bt338.2) else (F0.j0 k bt331.1 bt331.2.1 bt331.2.2 bt346.1 bt346.2.1 bt346.2.2 true l0_0 a0_1 a1_0 a1_1 a1_2 bt338.1 bt338.2))) else (F0.j0 k bt331.1 bt331.2.1 bt331.2.2 bt346.1 bt346.2.1 bt346.2.2 true l0_0 a0_1 a1_0 a1_1 a1_2 bt338.1 bt338.2))))))))))=some r:=H;have A10:=zh A100;clear A100
 by_cases c11 : t323<0
 ·
  rw [if_pos c11] at H
  have c11b0 : decide (t323<0)=true:=decide_eq_true c11;clear c11;obtain rfl:=zU H
  go_enter Try.func3,Try.ntmps3
  go_wp2_with (first|((with_reducible refine zK (N:=2) rfl ?_);refine zI ?hg (N:=2) ?hd (cs:=#[.slice A0_0 l0_0.length c0_0,.int .i64 a0_1]) (t:=24) ?hr ?_;(case hd|hg => rfl);(case hr => go_simp <;> rfl);intro gb320 hg w12 hbox hb;have BK320:=zh (hbox);have hH_:=cH (by repeat (with_reducible first|exact HB.out|apply za|apply zb|apply zc)) hb hg;have GW320:=zh hH_.1;have GE320:=GW320;replace HB:=zh hH_.2;clear hb hbox hg hH_)|((with_reducible refine zK (N:=3) rfl ?_);refine zI ?hg (N:=3) ?hd (cs:=#[.string a1_0,.string a1_1,.bool a1_2]) (t:=26) ?hr ?_;(case hd|hg => rfl);(case hr => go_simp <;> rfl);intro gb321 hg w13 hbox hb;have BK321:=zh (hbox);have hH_:=cH (by repeat (with_reducible first|exact HB.out|apply za|apply zb|apply zc|refine zd ?_ GE320.out)) hb hg;have GW321:=zh hH_.1;have GE321:=GW321;replace HB:=zh hH_.2;have NB320_321:=zh ((by rw [hg];exact yc (yi (g:=gb320) (o:=.cells #[.slice A0_0 l0_0.length c0_0,.int .i64 a0_1] 24 (0,0)) (by (with_reducible repeat first|apply ze|apply zf|apply zg);exact BK320.out)) : gb320≠gb321));have NB321_320:=zh NB320_321.out.symm;replace BK320:=zh (cD BK320.out (by (with_reducible repeat first|apply ze|apply zf|apply zg);exact BK320.out) hb);clear hb hbox hg hH_;have hnb14:=NB320_321.out;have hnc14:=NB321_320.out;obtain ⟨hcz15_0,hcz15_1,hfz15_0,hfz15_1⟩:=cB2 BK320.out)|((with_reducible refine zJ (f:=6) rfl ?_);refine yj (some 21) rfl rfl Try.func6 (by kernel_rfl) rfl #[.agg #[.slice A0_0 l0_0.length c0_0,.int .i64 a0_1],.int .i64 1048576] rfl (by (try simp only [zt,zu,zv]);first|done|rfl|(simp only [zw,zx];rfl)|(simp only [yr,ys,zV,zW];rfl)) ?_;(with_reducible refine (F07.calls k  _ _ l0_0 a0_1 1048576 t322 _ ?side1 ?side2 A3.out).mono ?_);(case side1 => repeat (first|exact (Kd.C_below HR0_0.out HB.out)|(with_reducible refine Kd.C_alloc ?_ _)|(with_reducible refine Kd.C_drewN ?_ _)|(with_reducible refine Kd.C_drew ?_)));(case side2 => exact HC0_0.out);rintro e w16 ⟨rfl,hb⟩;refine ⟨_,rfl,?_⟩;replace BK320:=zh (cD BK320.out (by (with_reducible repeat first|apply ze|apply zf|apply zg);exact BK320.out) hb);replace BK321:=zh (cD BK321.out (by (with_reducible repeat first|apply ze|apply zf|apply zg);exact BK321.out) hb);replace HB:=zh (zC (by repeat (with_reducible first|exact HB.out|apply za|apply zb|apply zc|refine zd ?_ GE320.out|refine zd ?_ GE321.out)) hb);(try clear hb);(try clear hb2);(try clear hk);(try clear hi);obtain ⟨hcz17_0,hcz17_1,hcz17_2,hfz17_0,hfz17_1,hfz17_2⟩:=cB3 BK321.out)|((with_reducible refine zJ (f:=7) rfl ?_);refine yj (some 26) rfl rfl Try.func7 (by kernel_rfl) rfl #[.agg #[.string a1_0,.string a1_1,.bool a1_2],.int .i64 t322] rfl (by (try simp only [zt,zu,zv]);first|done|rfl|(simp only [zw,zx];rfl)|(simp only [yr,ys,zV,zW];rfl)) ?_;(with_reducible refine (F09.calls  a1_0 a1_1 a1_2 t322 t323 _ A10.out).mono ?_);rintro e w18 ⟨rfl,hb⟩;refine ⟨_,rfl,?_⟩;replace BK320:=zh (cD BK320.out (by (with_reducible repeat first|apply ze|apply zf|apply zg);exact BK320.out) hb);replace BK321:=zh (cD BK321.out (by (with_reducible repeat first|apply ze|apply zf|apply zg);exact BK321.out) hb);replace HB:=zh (zC (by repeat (with_reducible first|exact HB.out|apply za|apply zb|apply zc|refine zd ?_ GE320.out|refine zd ?_ GE321.out)) hb);(try clear hb);(try clear hb2);(try clear hk);(try clear hi)))
  go_ret
  exact ⟨by first|rfl|(simp [yt,yu] <;> rfl)|(simp [*,yt,yu] <;> rfl),by repeat (with_reducible first|exact HB.out|apply za|apply zb|apply zc|refine zd ?_ GE320.out|refine zd ?_ GE321.out)⟩
 rw [if_neg c11] at H;have c11b0 : decide (t323<0)=false:=decide_eq_false c11;clear c11;replace H:=zT.mp H;obtain ⟨⟨t324,t327⟩,A190,H⟩:=H;replace H : ((Fz.f a1_0 a1_1 a1_2).bind fun bt328 => ((F05.f k t324 t327 bt328.1 bt328.2.1 bt328.2.2).bind fun bt331 => ((Fp.f k l0_0 a0_1).bind fun bt338 => ((Fz.f a1_0 a1_1 a1_2).bind fun bt343 => ((F9.f k bt338.1 bt338.2 bt343.1 bt343.2.1 bt343.2.2).bind fun bt346 => ((F8.f k bt346.1 bt331.1).bind fun t353 => (if t353=true then ((Fa.f k bt346.2.1 bt331.2.1).bind fun t354 => (if t354=true then (F0.j0 k bt331.1 bt331.2.1 bt331.2.2 bt346.1 bt346.2.1 bt346.2.2 (bt346.2.2 != bt331.2.2) l0_0 a0_1 a1_0 a1_1 a1_2 bt338.1 bt338.2) else (F0.j0 k bt331.1 bt331.2.1 bt331.2.2 bt346.1 bt346.2.1 bt346.2.2 true l0_0 a0_1 a1_0 a1_1 a1_2 bt338.1 bt338.2))) else (F0.j0 k bt331.1 bt331.2.1 bt331.2.2 bt346.1 bt346.2.1 bt346.2.2 true l0_0 a0_1 a1_0 a1_1 a1_2 bt338.1 bt338.2))))))))=some r:=H;have A19:=zh A190;clear A190;replace H:=zT.mp H;obtain ⟨⟨t328,t329,t330⟩,A200,H⟩:=H;replace H : ((F05.f k t324 t327 t328 t329 t330).bind fun bt331 => ((Fp.f k l0_0 a0_1).bind fun bt338 => ((Fz.f a1_0 a1_1 a1_2).bind fun bt343 => ((F9.f k bt338.1 bt338.2 bt343.1 bt343.2.1 bt343.2.2).bind fun bt346 => ((F8.f k bt346.1 bt331.1).bind fun t353 => (if t353=true then ((Fa.f k bt346.2.1 bt331.2.1).bind fun t354 => (if t354=true then (F0.j0 k bt331.1 bt331.2.1 bt331.2.2 bt346.1 bt346.2.1 bt346.2.2 (bt346.2.2 != bt331.2.2) l0_0 a0_1 a1_0 a1_1 a1_2 bt338.1 bt338.2) else (F0.j0 k bt331.1 bt331.2.1 bt331.2.2 bt346.1 bt346.2.1 bt346.2.2 true l0_0 a0_1 a1_0 a1_1 a1_2 bt338.1 bt338.2))) else (F0.j0 k bt331.1 bt331.2.1 bt331.2.2 bt346.1 bt346.2.1 bt346.2.2 true l0_0 a0_1 a1_0 a1_1 a1_2 bt338.1 bt338.2)))))))=some r:=H;have A20:=zh A200;clear A200;replace H:=zT.mp H;obtain ⟨⟨t331,t334,t337⟩,A210,H⟩:=H;replace H : ((Fp.f k l0_0 a0_1).bind fun bt338 => ((Fz.f a1_0 a1_1 a1_2).bind fun bt343 => ((F9.f k bt338.1 bt338.2 bt343.1 bt343.2.1 bt343.2.2).bind fun bt346 => ((F8.f k bt346.1 t331).bind fun t353 => (if t353=true then ((Fa.f k bt346.2.1 t334).bind fun t354 => (if t354=true then (F0.j0 k t331 t334 t337 bt346.1 bt346.2.1 bt346.2.2 (bt346.2.2 != t337) l0_0 a0_1 a1_0 a1_1 a1_2 bt338.1 bt338.2) else (F0.j0 k t331 t334 t337 bt346.1 bt346.2.1 bt346.2.2 true l0_0 a0_1 a1_0 a1_1 a1_2 bt338.1 bt338.2))) else (F0.j0 k t331 t334 t337 bt346.1 bt346.2.1 bt346.2.2 true l0_0 a0_1 a1_0 a1_1 a1_2 bt338.1 bt338.2))))))=some r:=H;have A21:=zh A210;clear A210;replace H:=zT.mp H;obtain ⟨⟨t338,t341⟩,A220,H⟩:=H;replace H : ((Fz.f a1_0 a1_1 a1_2).bind fun bt343 => ((F9.f k t338 t341 bt343.1 bt343.2.1 bt343.2.2).bind fun bt346 => ((F8.f k bt346.1 t331).bind fun t353 => (if t353=true then ((Fa.f k bt346.2.1 t334).bind fun t354 => (if t354=true then (F0.j0 k t331 t334 t337 bt346.1 bt346.2.1 bt346.2.2 (bt346.2.2 != t337) l0_0 a0_1 a1_0 a1_1 a1_2 t338 t341) else (F0.j0 k t331 t334 t337 bt346.1 bt346.2.1 bt346.2.2 true l0_0 a0_1 a1_0 a1_1 a1_2 t338 t341))) else (F0.j0 k t331 t334 t337 bt346.1 bt346.2.1 bt346.2.2 true l0_0 a0_1 a1_0 a1_1 a1_2 t338 t341)))))=some r:=H;have A22:=zh A220;clear A220;replace H:=zT.mp H;obtain ⟨⟨t343,t344,t345⟩,A230,H⟩:=H;replace H : ((F9.f k t338 t341 t343 t344 t345).bind fun bt346 => ((F8.f k bt346.1 t331).bind fun t353 => (if t353=true then ((Fa.f k bt346.2.1 t334).bind fun t354 => (if t354=true then (F0.j0 k t331 t334 t337 bt346.1 bt346.2.1 bt346.2.2 (bt346.2.2 != t337) l0_0 a0_1 a1_0 a1_1 a1_2 t338 t341) else (F0.j0 k t331 t334 t337 bt346.1 bt346.2.1 bt346.2.2 true l0_0 a0_1 a1_0 a1_1 a1_2 t338 t341))) else (F0.j0 k t331 t334 t337 bt346.1 bt346.2.1 bt346.2.2 true l0_0 a0_1 a1_0 a1_1 a1_2 t338 t341))))=some r:=H;have A23:=zh A230;clear A230;replace H:=zT.mp H;obtain ⟨⟨t346,t349,t352⟩,A240,H⟩:=H;replace H : ((F8.f k t346 t331).bind fun t353 => (if t353=true then ((Fa.f k t349 t334).bind fun t354 => (if t354=true then (F0.j0 k t331 t334 t337 t346 t349 t352 (t352 != t337) l0_0 a0_1 a1_0 a1_1 a1_2 t338 t341) else (F0.j0 k t331 t334 t337 t346 t349 t352 true l0_0 a0_1 a1_0 a1_1 a1_2 t338 t341))) else (F0.j0 k t331 t334 t337 t346 t349 t352 true l0_0 a0_1 a1_0 a1_1 a1_2 t338 t341)))=some r:=H;have A24:=zh A240;clear A240;have HC25:=zh H;clear H
 go_enter Try.func3,Try.ntmps3
 try go_wp2_with (first|((with_reducible refine zK (N:=2) rfl ?_);refine zI ?hg (N:=2) ?hd (cs:=#[.slice A0_0 l0_0.length c0_0,.int .i64 a0_1]) (t:=24) ?hr ?_;(case hd|hg => rfl);(case hr => go_simp <;> rfl);intro gb320 hg w26 hbox hb;have BK320:=zh (hbox);have hH_:=cH (by repeat (with_reducible first|exact HB.out|apply za|apply zb|apply zc)) hb hg;have GW320:=zh hH_.1;have GE320:=GW320;replace HB:=zh hH_.2;clear hb hbox hg hH_)|((with_reducible refine zK (N:=3) rfl ?_);refine zI ?hg (N:=3) ?hd (cs:=#[.string a1_0,.string a1_1,.bool a1_2]) (t:=26) ?hr ?_;(case hd|hg => rfl);(case hr => go_simp <;> rfl);intro gb321 hg w27 hbox hb;have BK321:=zh (hbox);have hH_:=cH (by repeat (with_reducible first|exact HB.out|apply za|apply zb|apply zc|refine zd ?_ GE320.out)) hb hg;have GW321:=zh hH_.1;have GE321:=GW321;replace HB:=zh hH_.2;have NB320_321:=zh ((by rw [hg];exact yc (yi (g:=gb320) (o:=.cells #[.slice A0_0 l0_0.length c0_0,.int .i64 a0_1] 24 (0,0)) (by (with_reducible repeat first|apply ze|apply zf|apply zg);exact BK320.out)) : gb320≠gb321));have NB321_320:=zh NB320_321.out.symm;replace BK320:=zh (cD BK320.out (by (with_reducible repeat first|apply ze|apply zf|apply zg);exact BK320.out) hb);clear hb hbox hg hH_;have hnb28:=NB320_321.out;have hnc28:=NB321_320.out;obtain ⟨hcz29_0,hcz29_1,hfz29_0,hfz29_1⟩:=cB2 BK320.out)|((with_reducible refine zJ (f:=6) rfl ?_);refine yj (some 21) rfl rfl Try.func6 (by kernel_rfl) rfl #[.agg #[.slice A0_0 l0_0.length c0_0,.int .i64 a0_1],.int .i64 1048576] rfl (by (try simp only [zt,zu,zv]);first|done|rfl|(simp only [zw,zx];rfl)|(simp only [yr,ys,zV,zW];rfl)) ?_;(with_reducible refine (F07.calls k  _ _ l0_0 a0_1 1048576 t322 _ ?side1 ?side2 A3.out).mono ?_);(case side1 => repeat (first|exact (Kd.C_below HR0_0.out HB.out)|(with_reducible refine Kd.C_alloc ?_ _)|(with_reducible refine Kd.C_drewN ?_ _)|(with_reducible refine Kd.C_drew ?_)));(case side2 => exact HC0_0.out);rintro e w30 ⟨rfl,hb⟩;refine ⟨_,rfl,?_⟩;replace BK320:=zh (cD BK320.out (by (with_reducible repeat first|apply ze|apply zf|apply zg);exact BK320.out) hb);replace BK321:=zh (cD BK321.out (by (with_reducible repeat first|apply ze|apply zf|apply zg);exact BK321.out) hb);replace HB:=zh (zC (by repeat (with_reducible first|exact HB.out|apply za|apply zb|apply zc|refine zd ?_ GE320.out|refine zd ?_ GE321.out)) hb);(try clear hb);(try clear hb2);(try clear hk);(try clear hi);obtain ⟨hcz31_0,hcz31_1,hcz31_2,hfz31_0,hfz31_1,hfz31_2⟩:=cB3 BK321.out)|((with_reducible refine zJ (f:=7) rfl ?_);refine yj (some 26) rfl rfl Try.func7 (by kernel_rfl) rfl #[.agg #[.string a1_0,.string a1_1,.bool a1_2],.int .i64 t322] rfl (by (try simp only [zt,zu,zv]);first|done|rfl|(simp only [zw,zx];rfl)|(simp only [yr,ys,zV,zW];rfl)) ?_;(with_reducible refine (F09.calls  a1_0 a1_1 a1_2 t322 t323 _ A10.out).mono ?_);rintro e w32 ⟨rfl,hb⟩;refine ⟨_,rfl,?_⟩;replace BK320:=zh (cD BK320.out (by (with_reducible repeat first|apply ze|apply zf|apply zg);exact BK320.out) hb);replace BK321:=zh (cD BK321.out (by (with_reducible repeat first|apply ze|apply zf|apply zg);exact BK321.out) hb);replace HB:=zh (zC (by repeat (with_reducible first|exact HB.out|apply za|apply zb|apply zc|refine zd ?_ GE320.out|refine zd ?_ GE321.out)) hb);(try clear hb);(try clear hb2);(try clear hk);(try clear hi)))
 replace BK320:=zh (zf BK320.out);replace BK321:=zh (zf BK321.out);replace HB:=zh (zc HB.out);refine start_ (n:=12) (S:=fun w' => w'.cell? ⟨gb320,0,none⟩=some (.slice A0_0 l0_0.length c0_0)∧w'.cell? ⟨gb320,1,none⟩=some (.int .i64 a0_1)∧w'.cell? ⟨gb321,0,none⟩=some (.string a1_0)∧w'.cell? ⟨gb321,1,none⟩=some (.string a1_1)∧w'.cell? ⟨gb321,2,none⟩=some (.bool a1_2)) (ds:=[]) (bm_ 0 12) (by kernel_rfl) rfl rfl ⟨(zz BK320.out 0).trans rfl,(zz BK320.out 1).trans rfl,(zz BK321.out 0).trans rfl,(zz BK321.out 1).trans rfl,(zz BK321.out 2).trans rfl⟩ (fun hHeld => ?_);refine with_tabW F0.tab8 F0.bits8 (fun HT_ HW_ => ?_);generalize w32.drew=w33 at BK320 BK321 HB hHeld ⊢;refine take_ (i:=0) (N:=some 30) (v:=?_) (a':=?_) (bm_ 1 12) rfl rfl (yo HT_.out HW_.out (by kernel_rfl)) (fun _ _ _ h => h) (Or.inl ⟨by rfl,?_⟩) hHeld ?_ ?_;rotate_left
 ·
  rintro w' ⟨s0,s1,s2,s3,s4⟩
  go_simp
  with_reducible rfl
 rotate_left
 ·
  simp only [Act.put,zi,zj,zk,zG,zH]
  rfl
 refine take_ (i:=2) (N:=some 32) (v:=?_) (a':=?_) #[true,false,true,false,false,false,false,false,false,false,false,false] rfl rfl (yo HT_.out HW_.out (by kernel_rfl)) (fun _ _ _ h => h) (Or.inl ⟨by rfl,?_⟩) hHeld ?_ ?_;rotate_left
 ·
  rintro w' ⟨s0,s1,s2,s3,s4⟩
  go_simp
  with_reducible rfl
 rotate_left
 ·
  simp only [Act.put,zi,zj,zk,zG,zH]
  rfl
 refine one_ (i:=1) (N:=some 31) (bm_ 3 12) rfl rfl (one_of HT_.out (by kernel_rfl)) (by decide) (fun K hK => ?_);refine goes_ Try.func9 (by kernel_rfl) rfl #[.agg #[.slice A0_0 l0_0.length c0_0,.int .i64 a0_1]] (by rfl) rfl rfl (by (try simp only [zt,zu,zv]);first|done|rfl|(simp only [zw,zx];rfl)|(simp only [yr,ys,zV,zW];rfl)) ?_
 with_reducible refine (Fp.calls k  _ _ l0_0 a0_1 t324 t327 _ ?side1 ?side2 A19.out).mono ?_
 (case side1 => repeat (first|exact (Kd.C_below HR0_0.out HB.out)|(with_reducible refine Kd.C_alloc ?_ _)|(with_reducible refine Kd.C_drewN ?_ _)|(with_reducible refine Kd.C_drew ?_)))
 (case side2 => exact HC0_0.out)
 rintro e w34 ⟨v325,rfl,ho0,hb⟩;refine ⟨_,rfl,?_⟩;have HO326:=zh (Kd.S_lower ho0 (zB (by repeat (with_reducible first|exact HB.out|apply za|apply zb|apply zc|refine zd ?_ GE320.out|refine zd ?_ GE321.out))));replace BK320:=zh (cD BK320.out (by (with_reducible repeat first|apply ze|apply zf|apply zg);exact BK320.out) hb);replace BK321:=zh (cD BK321.out (by (with_reducible repeat first|apply ze|apply zf|apply zg);exact BK321.out) hb);replace HB:=zh (zC (by repeat (with_reducible first|exact HB.out|apply za|apply zb|apply zc|refine zd ?_ GE320.out|refine zd ?_ GE321.out)) hb);(try clear hb);(try clear hb2);(try clear hk);(try clear hi);(try clear ho0);refine hK.out _ _ ⟨(zz BK320.out 0).trans rfl,(zz BK320.out 1).trans rfl,(zz BK321.out 0).trans rfl,(zz BK321.out 1).trans rfl,(zz BK321.out 2).trans rfl⟩ (fun hHeld => ?_);clear hK K;refine norm_ (a':=?_) ?_ ?_;rotate_left
 ·
  show Act.put _ (some 31) _=_
  simp only [Act.put,zi,zj,zk,zG,zH]
  rfl
 refine one_ (i:=3) (N:=some 33) (bm_ 4 12) rfl rfl (one_of HT_.out (by kernel_rfl)) (by decide) (fun K hK => ?_);refine goes_ Try.func10 (by kernel_rfl) rfl #[.agg #[.string a1_0,.string a1_1,.bool a1_2]] (by rfl) rfl rfl (by (try simp only [zt,zu,zv]);first|done|rfl|(simp only [zw,zx];rfl)|(simp only [yr,ys,zV,zW];rfl)) ?_
 with_reducible refine (Fz.calls  a1_0 a1_1 a1_2 t328 t329 t330 _ A20.out).mono ?_
 rintro e w35 ⟨rfl,hb⟩;refine ⟨_,rfl,?_⟩;replace HO326:=zh (Kd.S_below (by (with_reducible repeat (first|apply Kd.S_alloc|apply Kd.S_drewN|apply Kd.S_drew));exact HO326.out) hb);replace BK320:=zh (cD BK320.out (by (with_reducible repeat first|apply ze|apply zf|apply zg);exact BK320.out) hb);replace BK321:=zh (cD BK321.out (by (with_reducible repeat first|apply ze|apply zf|apply zg);exact BK321.out) hb);replace HB:=zh (zC (by repeat (with_reducible first|exact HB.out|apply za|apply zb|apply zc|refine zd ?_ GE320.out|refine zd ?_ GE321.out)) hb);(try clear hb);(try clear hb2);(try clear hk);(try clear hi);obtain ⟨Ao36,co36,eo36⟩:=Kd.S_slice HO326.out;(first|subst eo36|(injection eo36 with f1_ f2_ f3_;have f4_:=f1_.symm;have f5_:=f3_.symm;clear f1_ f2_ f3_;subst f4_;subst f5_));refine hK.out _ _ ⟨(zz BK320.out 0).trans rfl,(zz BK320.out 1).trans rfl,(zz BK321.out 0).trans rfl,(zz BK321.out 1).trans rfl,(zz BK321.out 2).trans rfl⟩ (fun hHeld => ?_);clear hK K;refine norm_ (a':=?_) ?_ ?_;rotate_left
 ·
  show Act.put _ (some 33) _=_
  simp only [Act.put,zi,zj,zk,zG,zH]
  rfl
 refine one_ (i:=4) (N:=some 34) (bm_ 5 12) rfl rfl (one_of HT_.out (by kernel_rfl)) (by decide) (fun K hK => ?_);refine goes_ Try.func8 (by kernel_rfl) rfl #[.agg #[.slice Ao36 t324.length co36,.int .i64 t327],.agg #[.string t328,.string t329,.bool t330]] (by rfl) rfl rfl (by (try simp only [zt,zu,zv]);first|done|rfl|(simp only [zw,zx];rfl)|(simp only [yr,ys,zV,zW];rfl)) ?_
 with_reducible refine (F05.calls k  _ _ t324 t327 t328 t329 t330 t331 t334 t337 _ ?side1 ?side2 A21.out).mono ?_
 (case side1 => repeat (first|exact (Kd.S_reads' HO326.out).2.2|(with_reducible refine Kd.C_alloc ?_ _)|(with_reducible refine Kd.C_drewN ?_ _)|(with_reducible refine Kd.C_drew ?_)))
 (case side2 => exact (Kd.S_reads' HO326.out).2.1)
 rintro e w37 ⟨v332,v335,rfl,ho0,ho1,hb⟩;refine ⟨_,rfl,?_⟩;replace HO326:=zh (Kd.S_elder' (by (with_reducible repeat (first|apply Kd.S_alloc|apply Kd.S_drewN|apply Kd.S_drew));exact HO326.out) (Kd.R_base ho0) hb);have HO333:=zh (yx ho0 (zB (by repeat (with_reducible first|exact HB.out|apply za|apply zb|apply zc|refine zd ?_ GE320.out|refine zd ?_ GE321.out))));have HO336:=zh (yx ho1 (zB (by repeat (with_reducible first|exact HB.out|apply za|apply zb|apply zc|refine zd ?_ GE320.out|refine zd ?_ GE321.out))));replace BK320:=zh (cD BK320.out (by (with_reducible repeat first|apply ze|apply zf|apply zg);exact BK320.out) hb);replace BK321:=zh (cD BK321.out (by (with_reducible repeat first|apply ze|apply zf|apply zg);exact BK321.out) hb);replace HB:=zh (zC (by repeat (with_reducible first|exact HB.out|apply za|apply zb|apply zc|refine zd ?_ GE320.out|refine zd ?_ GE321.out)) hb);(try clear hb);(try clear hb2);(try clear hk);(try clear hi);(try clear ho0);(try clear ho1);refine hK.out _ _ ⟨(zz BK320.out 0).trans rfl,(zz BK320.out 1).trans rfl,(zz BK321.out 0).trans rfl,(zz BK321.out 1).trans rfl,(zz BK321.out 2).trans rfl⟩ (fun hHeld => ?_);clear hK K;refine norm_ (a':=?_) ?_ ?_;rotate_left
 ·
  show Act.put _ (some 34) _=_
  simp only [Act.put,zi,zj,zk,zG,zH]
  rfl
 refine pure_ (i:=5) (N:=some 29) (v:=?_) (a':=?_) (bm_ 6 12) rfl rfl (any_of HT_.out (by kernel_rfl)) (fun _ _ _ h => h) (Or.inl ⟨by rfl,?_⟩) ?_ ?_;rotate_left
 ·
  intro w'
  go_simp
  with_reducible rfl
 rotate_left
 ·
  simp only [Act.put,zi,zj,zk,zG,zH]
  rfl
 refine pure_ (i:=6) (N:=some 35) (v:=?_) (a':=?_) (bm_ 7 12) rfl rfl (any_of HT_.out (by kernel_rfl)) (fun _ _ _ h => h) (Or.inl ⟨by rfl,?_⟩) ?_ ?_;rotate_left
 ·
  intro w'
  go_simp
  with_reducible rfl
 rotate_left
 ·
  simp only [Act.put,zi,zj,zk,zG,zH]
  rfl
 refine pure_ (i:=7) (N:=some 36) (v:=?_) (a':=?_) (bm_ 8 12) rfl rfl (any_of HT_.out (by kernel_rfl)) (fun _ _ _ h => h) (Or.inl ⟨by rfl,?_⟩) ?_ ?_;rotate_left
 ·
  intro w'
  go_simp
  with_reducible rfl
 rotate_left
 ·
  simp only [Act.put,zi,zj,zk,zG,zH]
  rfl
 refine pure_ (i:=8) (N:=some 37) (v:=?_) (a':=?_) (bm_ 9 12) rfl rfl (any_of HT_.out (by kernel_rfl)) (fun _ _ _ h => h) (Or.inl ⟨by rfl,?_⟩) ?_ ?_;rotate_left
 ·
  intro w'
  go_simp
  with_reducible rfl
 rotate_left
 ·
  simp only [Act.put,zi,zj,zk,zG,zH]
  rfl
 refine pure_ (i:=9) (N:=some 6) (v:=?_) (a':=?_) (bm_ 10 12) rfl rfl (any_of HT_.out (by kernel_rfl)) (fun _ _ _ h => h) (Or.inl ⟨by rfl,?_⟩) ?_ ?_;rotate_left
 ·
  intro w'
  go_simp
  with_reducible rfl
 rotate_left
 ·
  simp only [Act.put,zi,zj,zk,zG,zH]
  rfl
 refine pure_ (i:=10) (N:=some 7) (v:=?_) (a':=?_) (bm_ 11 12) rfl rfl (any_of HT_.out (by kernel_rfl)) (fun _ _ _ h => h) (Or.inl ⟨by rfl,?_⟩) ?_ ?_;rotate_left
 ·
  intro w'
  go_simp
  with_reducible rfl
 rotate_left
 ·
  simp only [Act.put,zi,zj,zk,zG,zH]
  rfl
 refine pure_ (i:=11) (N:=some 8) (v:=?_) (a':=?_) (bm_ 12 12) rfl rfl (any_of HT_.out (by kernel_rfl)) (fun _ _ _ h => h) (Or.inl ⟨by rfl,?_⟩) ?_ ?_;rotate_left
 ·
  intro w'
  go_simp
  with_reducible rfl
 rotate_left
 ·
  simp only [Act.put,zi,zj,zk,zG,zH]
  rfl
 refine done_ (done_of HT_.out (by kernel_rfl)) ?_;obtain ⟨hcz38_0,hcz38_1,hfz38_0,hfz38_1⟩:=cB2 BK320.out
 try go_wp2_with (first|((with_reducible refine zJ (f:=9) rfl ?_);refine yj (some 39) rfl rfl Try.func9 (by kernel_rfl) rfl #[.agg #[.slice A0_0 l0_0.length c0_0,.int .i64 a0_1]] rfl (by (try simp only [zt,zu,zv]);first|done|rfl|(simp only [zw,zx];rfl)|(simp only [yr,ys,zV,zW];rfl)) ?_;(with_reducible refine (Fp.calls k  _ _ l0_0 a0_1 t338 t341 _ ?side1 ?side2 A22.out).mono ?_);(case side1 => repeat (first|exact (Kd.C_below HR0_0.out HB.out)|(with_reducible refine Kd.C_alloc ?_ _)|(with_reducible refine Kd.C_drewN ?_ _)|(with_reducible refine Kd.C_drew ?_)));(case side2 => exact HC0_0.out);rintro e w39 ⟨v339,rfl,ho0,hb⟩;refine ⟨_,rfl,?_⟩;replace HO336:=zh (yg (by (with_reducible repeat (first|apply zm|apply zn|apply zo));exact HO336.out) hb);have HO340:=zh (Kd.S_lower (Kd.S_new' (Kd.S_new' ho0 (Kd.S_lt (by (with_reducible repeat (first|apply Kd.S_alloc|apply Kd.S_drewN|apply Kd.S_drew));exact HO326.out))) (Kd.R_lt (by (with_reducible repeat (first|apply zm|apply zn|apply zo));exact HO333.out))) (zB (by repeat (with_reducible first|exact HB.out|apply za|apply zb|apply zc|refine zd ?_ GE320.out|refine zd ?_ GE321.out))));replace HO326:=zh (Kd.S_elder' (by (with_reducible repeat (first|apply Kd.S_alloc|apply Kd.S_drewN|apply Kd.S_drew));exact HO326.out) (Kd.S_base ho0) hb);replace HO333:=zh (yg (by (with_reducible repeat (first|apply zm|apply zn|apply zo));exact HO333.out) hb);replace BK320:=zh (cD BK320.out (by (with_reducible repeat first|apply ze|apply zf|apply zg);exact BK320.out) hb);replace BK321:=zh (cD BK321.out (by (with_reducible repeat first|apply ze|apply zf|apply zg);exact BK321.out) hb);replace HB:=zh (zC (by repeat (with_reducible first|exact HB.out|apply za|apply zb|apply zc|refine zd ?_ GE320.out|refine zd ?_ GE321.out)) hb);(try clear hb);(try clear hb2);(try clear hk);(try clear hi);(try clear ho0))|((with_reducible refine zK (N:=9) rfl ?_);refine zI ?hg (N:=9) ?hd (cs:=#[.slice none 0 0,.int .i64 0]) (t:=35) ?hr ?_;(case hd|hg => rfl);(case hr => go_simp <;> rfl);intro gb342 hg w40 hbox hb;replace HO326:=zh (Kd.S_below (by (with_reducible repeat (first|apply Kd.S_alloc|apply Kd.S_drewN|apply Kd.S_drew));exact HO326.out) hb);replace HO333:=zh (yg (by (with_reducible repeat (first|apply zm|apply zn|apply zo));exact HO333.out) hb);replace HO336:=zh (yg (by (with_reducible repeat (first|apply zm|apply zn|apply zo));exact HO336.out) hb);replace HO340:=zh (Kd.S_below (by (with_reducible repeat (first|apply Kd.S_alloc|apply Kd.S_drewN|apply Kd.S_drew));exact HO340.out) hb);have BK342:=zh (hbox);have hH_:=cH (by repeat (with_reducible first|exact HB.out|apply za|apply zb|apply zc|refine zd ?_ GE320.out|refine zd ?_ GE321.out)) hb hg;have GW342:=zh hH_.1;have GE342:=GW342;replace HB:=zh hH_.2;have NB320_342:=zh ((by rw [hg];exact yc (yi (g:=gb320) (o:=.cells #[.slice A0_0 l0_0.length c0_0,.int .i64 a0_1] 24 (0,0)) (by (with_reducible repeat first|apply ze|apply zf|apply zg);exact BK320.out)) : gb320≠gb342));have NB342_320:=zh NB320_342.out.symm;replace BK320:=zh (cD BK320.out (by (with_reducible repeat first|apply ze|apply zf|apply zg);exact BK320.out) hb);have NB321_342:=zh ((by rw [hg];exact yc (yi (g:=gb321) (o:=.cells #[.string a1_0,.string a1_1,.bool a1_2] 26 (0,0)) (by (with_reducible repeat first|apply ze|apply zf|apply zg);exact BK321.out)) : gb321≠gb342));have NB342_321:=zh NB321_342.out.symm;replace BK321:=zh (cD BK321.out (by (with_reducible repeat first|apply ze|apply zf|apply zg);exact BK321.out) hb);clear hb hbox hg hH_;obtain ⟨Ao41,co41,eo41⟩:=Kd.S_slice HO340.out;subst eo41;have hnb42:=NB342_320.out;have hnc42:=NB320_342.out;have hnb43:=NB342_321.out;have hnc43:=NB321_342.out;obtain ⟨hcz44_0,hcz44_1,hfz44_0,hfz44_1⟩:=cB2 BK342.out))
 have n0_ : Aside0 (Kd.S k67 67 ((w40.setCell ⟨gb342,0,none⟩ (.slice Ao41 t338.length co41)).setCell ⟨gb342,1,none⟩ (.int .i64 t341)) w.heap.size (fun k_ => some k_≠(v332 : Value).ownBlock∧some k_≠(.slice Ao41 t338.length co41 : Value).ownBlock) (.slice Ao36 t324.length co36) t324):=⟨by (with_reducible repeat (first|apply Kd.S_alloc|apply Kd.S_drewN|apply Kd.S_drew));exact Kd.S_mono (Kd.S_far (p:=⟨gb342,1,none⟩) (Kd.S_far (p:=⟨gb342,0,none⟩) (Kd.S_types HO326.out BK342.out (by decide)) (fun _ hk => hk.2) (.slice Ao41 t338.length co41)) (fun _ hk => hk.2) (.int .i64 t341)) (fun _ hk => ⟨hk.1.1.2,hk.1.2⟩)⟩;have n1_ : Aside0 (Kd.R k51 51 ((w40.setCell ⟨gb342,0,none⟩ (.slice Ao41 t338.length co41)).setCell ⟨gb342,1,none⟩ (.int .i64 t341)) w.heap.size (fun _ => True) v332 t331):=⟨by (with_reducible repeat (first|apply zm|apply zn|apply zo));exact zM (zE (p:=⟨gb342,1,none⟩) (zE (p:=⟨gb342,0,none⟩) (yf HO333.out BK342.out (by decide)) (fun _ hk => hk.2) (.slice Ao41 t338.length co41)) (fun _ hk => hk.2) (.int .i64 t341)) (fun _ hk => trivial)⟩;have n2_ : Aside0 (Kd.R (Kd.int .i64) 3 ((w40.setCell ⟨gb342,0,none⟩ (.slice Ao41 t338.length co41)).setCell ⟨gb342,1,none⟩ (.int .i64 t341)) w.heap.size (fun _ => True) v335 t334):=⟨by (with_reducible repeat (first|apply zm|apply zn|apply zo));exact zM (zE (p:=⟨gb342,1,none⟩) (zE (p:=⟨gb342,0,none⟩) (yf HO336.out BK342.out (by decide)) (fun _ hk => hk.2) (.slice Ao41 t338.length co41)) (fun _ hk => hk.2) (.int .i64 t341)) (fun _ hk => trivial)⟩;have n3_ : Aside0 (Kd.S k67 67 ((w40.setCell ⟨gb342,0,none⟩ (.slice Ao41 t338.length co41)).setCell ⟨gb342,1,none⟩ (.int .i64 t341)) w.heap.size (fun k_ => some k_≠(.slice Ao36 t324.length co36 : Value).ownBlock∧some k_≠(v332 : Value).ownBlock) (.slice Ao41 t338.length co41) t338):=⟨by (with_reducible repeat (first|apply Kd.S_alloc|apply Kd.S_drewN|apply Kd.S_drew));exact Kd.S_mono (Kd.S_far (p:=⟨gb342,1,none⟩) (Kd.S_far (p:=⟨gb342,0,none⟩) (Kd.S_types HO340.out BK342.out (by decide)) (fun _ hk => hk.2) (.slice Ao41 t338.length co41)) (fun _ hk => hk.2) (.int .i64 t341)) (fun _ hk => ⟨hk.1.1.2,hk.1.2⟩)⟩;have n4_ : Aside0 (((w40.setCell ⟨gb342,0,none⟩ (.slice Ao41 t338.length co41)).setCell ⟨gb342,1,none⟩ (.int .i64 t341)).heap[gb320]? = some (.cells #[.slice A0_0 l0_0.length c0_0,.int .i64 a0_1] 24 (0,0))):=⟨by (with_reducible repeat first|apply ze|apply zf|apply zg);refine cS2 ?_ NB320_342.out;(with_reducible repeat first|apply ze|apply zf|apply zg);exact BK320.out⟩;have n5_ : Aside0 (((w40.setCell ⟨gb342,0,none⟩ (.slice Ao41 t338.length co41)).setCell ⟨gb342,1,none⟩ (.int .i64 t341)).heap[gb321]? = some (.cells #[.string a1_0,.string a1_1,.bool a1_2] 26 (0,0))):=⟨by (with_reducible repeat first|apply ze|apply zf|apply zg);refine cS2 ?_ NB321_342.out;(with_reducible repeat first|apply ze|apply zf|apply zg);exact BK321.out⟩;have n6_ : Aside0 (((w40.setCell ⟨gb342,0,none⟩ (.slice Ao41 t338.length co41)).setCell ⟨gb342,1,none⟩ (.int .i64 t341)).heap[gb342]? = some (.cells #[.slice Ao41 t338.length co41,.int .i64 t341] 35 (0,0))):=⟨by (with_reducible repeat first|apply ze|apply zf|apply zg);refine zL (cs:=#[.slice Ao41 t338.length co41,.int .i64 0]) ?_ 1 _ rfl;(with_reducible repeat first|apply ze|apply zf|apply zg);refine zL (cs:=#[.slice none 0 0,.int .i64 0]) ?_ 0 _ rfl;(with_reducible repeat first|apply ze|apply zf|apply zg);exact BK342.out⟩;have n7_ : Aside0 (Below w.heap.size w ((w40.setCell ⟨gb342,0,none⟩ (.slice Ao41 t338.length co41)).setCell ⟨gb342,1,none⟩ (.int .i64 t341))):=⟨by repeat (with_reducible first|exact HB.out|apply za|apply zb|apply zc|refine zd ?_ GE320.out|refine zd ?_ GE321.out|refine zd ?_ GE342.out)⟩;(try clear HO326);(try clear HO333);(try clear HO336);(try clear HO340);(try clear BK320);(try clear BK321);(try clear BK342);(try clear HB);generalize ((w40.setCell ⟨gb342,0,none⟩ (.slice Ao41 t338.length co41)).setCell ⟨gb342,1,none⟩ (.int .i64 t341))=w45 at n0_ n1_ n2_ n3_ n4_ n5_ n6_ n7_ ⊢;have HO326:=n0_;have HO333:=n1_;have HO336:=n2_;have HO340:=n3_;have BK320:=n4_;have BK321:=n5_;have BK342:=n6_;have HB:=n7_;clear n0_ n1_ n2_ n3_ n4_ n5_ n6_ n7_;replace HO326:=zh (Kd.S_drew HO326.out);replace HO333:=zh (zo HO333.out);replace HO336:=zh (zo HO336.out);replace HO340:=zh (Kd.S_drew HO340.out);replace BK320:=zh (zf BK320.out);replace BK321:=zh (zf BK321.out);replace BK342:=zh (zf BK342.out);replace HB:=zh (zc HB.out);refine start_ (n:=11) (S:=fun w' => w'.cell? ⟨gb342,0,none⟩=some (.slice Ao41 t338.length co41)∧w'.cell? ⟨gb342,1,none⟩=some (.int .i64 t341)∧w'.cell? ⟨gb321,0,none⟩=some (.string a1_0)∧w'.cell? ⟨gb321,1,none⟩=some (.string a1_1)∧w'.cell? ⟨gb321,2,none⟩=some (.bool a1_2)) (ds:=[]) (bm_ 0 11) (by kernel_rfl) rfl rfl ⟨(zz BK342.out 0).trans rfl,(zz BK342.out 1).trans rfl,(zz BK321.out 0).trans rfl,(zz BK321.out 1).trans rfl,(zz BK321.out 2).trans rfl⟩ (fun hHeld => ?_);refine with_tabW F0.tab10 F0.bits10 (fun HT_ HW_ => ?_);generalize w45.drew=w46 at HO326 HO333 HO336 HO340 BK320 BK321 BK342 HB hHeld ⊢;refine take_ (i:=0) (N:=some 41) (v:=?_) (a':=?_) (bm_ 1 11) rfl rfl (yo HT_.out HW_.out (by kernel_rfl)) (fun _ _ _ h => h) (Or.inl ⟨by rfl,?_⟩) hHeld ?_ ?_;rotate_left
 ·
  rintro w' ⟨s0,s1,s2,s3,s4⟩
  go_simp
  with_reducible rfl
 rotate_left
 ·
  simp only [Act.put,zi,zj,zk,zG,zH]
  rfl
 refine take_ (i:=1) (N:=some 42) (v:=?_) (a':=?_) (bm_ 2 11) rfl rfl (yo HT_.out HW_.out (by kernel_rfl)) (fun _ _ _ h => h) (Or.inl ⟨by rfl,?_⟩) hHeld ?_ ?_;rotate_left
 ·
  rintro w' ⟨s0,s1,s2,s3,s4⟩
  go_simp
  with_reducible rfl
 rotate_left
 ·
  simp only [Act.put,zi,zj,zk,zG,zH]
  rfl
 refine one_ (i:=2) (N:=some 43) (bm_ 3 11) rfl rfl (one_of HT_.out (by kernel_rfl)) (by decide) (fun K hK => ?_);refine goes_ Try.func10 (by kernel_rfl) rfl #[.agg #[.string a1_0,.string a1_1,.bool a1_2]] (by rfl) rfl rfl (by (try simp only [zt,zu,zv]);first|done|rfl|(simp only [zw,zx];rfl)|(simp only [yr,ys,zV,zW];rfl)) ?_
 with_reducible refine (Fz.calls  a1_0 a1_1 a1_2 t343 t344 t345 _ A23.out).mono ?_
 rintro e w47 ⟨rfl,hb⟩;refine ⟨_,rfl,?_⟩;replace HO326:=zh (Kd.S_below (by (with_reducible repeat (first|apply Kd.S_alloc|apply Kd.S_drewN|apply Kd.S_drew));exact HO326.out) hb);replace HO333:=zh (yg (by (with_reducible repeat (first|apply zm|apply zn|apply zo));exact HO333.out) hb);replace HO336:=zh (yg (by (with_reducible repeat (first|apply zm|apply zn|apply zo));exact HO336.out) hb);replace HO340:=zh (Kd.S_below (by (with_reducible repeat (first|apply Kd.S_alloc|apply Kd.S_drewN|apply Kd.S_drew));exact HO340.out) hb);replace BK320:=zh (cD BK320.out (by (with_reducible repeat first|apply ze|apply zf|apply zg);exact BK320.out) hb);replace BK321:=zh (cD BK321.out (by (with_reducible repeat first|apply ze|apply zf|apply zg);exact BK321.out) hb);replace BK342:=zh (cD BK342.out (by (with_reducible repeat first|apply ze|apply zf|apply zg);exact BK342.out) hb);replace HB:=zh (zC (by repeat (with_reducible first|exact HB.out|apply za|apply zb|apply zc|refine zd ?_ GE320.out|refine zd ?_ GE321.out|refine zd ?_ GE342.out)) hb);(try clear hb);(try clear hb2);(try clear hk);(try clear hi);refine hK.out _ _ ⟨(zz BK342.out 0).trans rfl,(zz BK342.out 1).trans rfl,(zz BK321.out 0).trans rfl,(zz BK321.out 1).trans rfl,(zz BK321.out 2).trans rfl⟩ (fun hHeld => ?_);clear hK K;refine norm_ (a':=?_) ?_ ?_;rotate_left
 ·
  show Act.put _ (some 43) _=_
  simp only [Act.put,zi,zj,zk,zG,zH]
  rfl
 refine one_ (i:=3) (N:=some 44) (bm_ 4 11) rfl rfl (one_of HT_.out (by kernel_rfl)) (by decide) (fun K hK => ?_);refine goes_ Try.func11 (by kernel_rfl) rfl #[.agg #[.slice Ao41 t338.length co41,.int .i64 t341],.agg #[.string t343,.string t344,.bool t345]] (by rfl) rfl rfl (by (try simp only [zt,zu,zv]);first|done|rfl|(simp only [zw,zx];rfl)|(simp only [yr,ys,zV,zW];rfl)) ?_
 with_reducible refine (F9.calls k  _ _ t338 t341 t343 t344 t345 t346 t349 t352 _ ?side1 ?side2 A24.out).mono ?_
 (case side1 => repeat (first|exact (Kd.S_reads' HO340.out).2.2|(with_reducible refine Kd.C_alloc ?_ _)|(with_reducible refine Kd.C_drewN ?_ _)|(with_reducible refine Kd.C_drew ?_)))
 (case side2 => exact (Kd.S_reads' HO340.out).2.1)
 rintro e w48 ⟨v347,v350,rfl,ho0,ho1,hb⟩;refine ⟨_,rfl,?_⟩;replace HO326:=zh (Kd.S_elder' (by (with_reducible repeat (first|apply Kd.S_alloc|apply Kd.S_drewN|apply Kd.S_drew));exact HO326.out) (Kd.R_base ho0) hb);replace HO340:=zh (Kd.S_elder' (by (with_reducible repeat (first|apply Kd.S_alloc|apply Kd.S_drewN|apply Kd.S_drew));exact HO340.out) (Kd.R_base ho0) hb);have HO348:=zh (yx (Kd.R_new' ho0 (Kd.R_lt (by (with_reducible repeat (first|apply zm|apply zn|apply zo));exact HO333.out))) (zB (by repeat (with_reducible first|exact HB.out|apply za|apply zb|apply zc|refine zd ?_ GE320.out|refine zd ?_ GE321.out|refine zd ?_ GE342.out))));replace HO333:=zh (Kd.R_elder' (by (with_reducible repeat (first|apply zm|apply zn|apply zo));exact HO333.out) (Kd.R_base ho0) hb);have HO351:=zh (yx (Kd.R_new' ho1 (Kd.R_lt (by (with_reducible repeat (first|apply zm|apply zn|apply zo));exact HO336.out))) (zB (by repeat (with_reducible first|exact HB.out|apply za|apply zb|apply zc|refine zd ?_ GE320.out|refine zd ?_ GE321.out|refine zd ?_ GE342.out))));replace HO336:=zh (Kd.R_elder' (by (with_reducible repeat (first|apply zm|apply zn|apply zo));exact HO336.out) (Kd.R_base ho1) hb);replace BK320:=zh (cD BK320.out (by (with_reducible repeat first|apply ze|apply zf|apply zg);exact BK320.out) hb);replace BK321:=zh (cD BK321.out (by (with_reducible repeat first|apply ze|apply zf|apply zg);exact BK321.out) hb);replace BK342:=zh (cD BK342.out (by (with_reducible repeat first|apply ze|apply zf|apply zg);exact BK342.out) hb);replace HB:=zh (zC (by repeat (with_reducible first|exact HB.out|apply za|apply zb|apply zc|refine zd ?_ GE320.out|refine zd ?_ GE321.out|refine zd ?_ GE342.out)) hb);(try clear hb);(try clear hb2);(try clear hk);(try clear hi);(try clear ho0);(try clear ho1);refine hK.out _ _ ⟨(zz BK342.out 0).trans rfl,(zz BK342.out 1).trans rfl,(zz BK321.out 0).trans rfl,(zz BK321.out 1).trans rfl,(zz BK321.out 2).trans rfl⟩ (fun hHeld => ?_);clear hK K;refine norm_ (a':=?_) ?_ ?_;rotate_left
 ·
  show Act.put _ (some 44) _=_
  simp only [Act.put,zi,zj,zk,zG,zH]
  rfl
 refine pure_ (i:=4) (N:=some 40) (v:=?_) (a':=?_) (bm_ 5 11) rfl rfl (any_of HT_.out (by kernel_rfl)) (fun _ _ _ h => h) (Or.inl ⟨by rfl,?_⟩) ?_ ?_;rotate_left
 ·
  intro w'
  go_simp
  with_reducible rfl
 rotate_left
 ·
  simp only [Act.put,zi,zj,zk,zG,zH]
  rfl
 refine pure_ (i:=5) (N:=some 45) (v:=?_) (a':=?_) (bm_ 6 11) rfl rfl (any_of HT_.out (by kernel_rfl)) (fun _ _ _ h => h) (Or.inl ⟨by rfl,?_⟩) ?_ ?_;rotate_left
 ·
  intro w'
  go_simp
  with_reducible rfl
 rotate_left
 ·
  simp only [Act.put,zi,zj,zk,zG,zH]
  rfl
 refine pure_ (i:=6) (N:=some 46) (v:=?_) (a':=?_) (bm_ 7 11) rfl rfl (any_of HT_.out (by kernel_rfl)) (fun _ _ _ h => h) (Or.inl ⟨by rfl,?_⟩) ?_ ?_;rotate_left
 ·
  intro w'
  go_simp
  with_reducible rfl
 rotate_left
 ·
  simp only [Act.put,zi,zj,zk,zG,zH]
  rfl
 refine pure_ (i:=7) (N:=some 47) (v:=?_) (a':=?_) (bm_ 8 11) rfl rfl (any_of HT_.out (by kernel_rfl)) (fun _ _ _ h => h) (Or.inl ⟨by rfl,?_⟩) ?_ ?_;rotate_left
 ·
  intro w'
  go_simp
  with_reducible rfl
 rotate_left
 ·
  simp only [Act.put,zi,zj,zk,zG,zH]
  rfl
 refine pure_ (i:=8) (N:=some 10) (v:=?_) (a':=?_) (bm_ 9 11) rfl rfl (any_of HT_.out (by kernel_rfl)) (fun _ _ _ h => h) (Or.inl ⟨by rfl,?_⟩) ?_ ?_;rotate_left
 ·
  intro w'
  go_simp
  with_reducible rfl
 rotate_left
 ·
  simp only [Act.put,zi,zj,zk,zG,zH]
  rfl
 refine pure_ (i:=9) (N:=some 11) (v:=?_) (a':=?_) (bm_ 10 11) rfl rfl (any_of HT_.out (by kernel_rfl)) (fun _ _ _ h => h) (Or.inl ⟨by rfl,?_⟩) ?_ ?_;rotate_left
 ·
  intro w'
  go_simp
  with_reducible rfl
 rotate_left
 ·
  simp only [Act.put,zi,zj,zk,zG,zH]
  rfl
 refine pure_ (i:=10) (N:=some 12) (v:=?_) (a':=?_) (bm_ 11 11) rfl rfl (any_of HT_.out (by kernel_rfl)) (fun _ _ _ h => h) (Or.inl ⟨by rfl,?_⟩) ?_ ?_;rotate_left
 ·
  intro w'
  go_simp
  with_reducible rfl
 rotate_left
 ·
  simp only [Act.put,zi,zj,zk,zG,zH]
  rfl
 refine done_ (done_of HT_.out (by kernel_rfl)) ?_
 go_upto_region 11 with (fail)
 go_cut [62] (fun v62 wc => ∃ (kq : Nat) (x62_24 : Bool),v62 = .bool x62_24∧Aside0 (F0.j0 kq t331 t334 t337 t346 t349 t352 x62_24 l0_0 a0_1 a1_0 a1_1 a1_2 t338 t341=some r)∧Aside0 (kq≤k)∧Aside0 (Kd.R k51 51 wc w.heap.size (fun k_ => some k_≠(v347 : Value).ownBlock) v332 t331)∧Aside0 (Kd.R (Kd.int .i64) 3 wc w.heap.size (fun k_ => some k_≠(v350 : Value).ownBlock) v335 t334)∧Aside0 (Kd.R k51 51 wc w.heap.size (fun k_ => some k_≠(v332 : Value).ownBlock) v347 t346)∧Aside0 (Kd.R (Kd.int .i64) 3 wc w.heap.size (fun k_ => some k_≠(v335 : Value).ownBlock) v350 t349)∧Aside0 (Kd.S k67 67 wc w.heap.size (fun k_ => some k_≠(v332 : Value).ownBlock∧some k_≠(v347 : Value).ownBlock) (.slice Ao41 t338.length co41) t338)∧Aside0 (wc.heap[gb320]? = some (.cells #[(.slice A0_0 l0_0.length c0_0),.int .i64 a0_1] 24 (0,0)))∧Aside0 (wc.heap[gb321]? = some (.cells #[.string a1_0,.string a1_1,.bool a1_2] 26 (0,0)))∧Aside0 (wc.heap[gb342]? = some (.cells #[(.slice Ao41 t338.length co41),.int .i64 t341] 35 (0,0)))∧Aside0 (Below w.heap.size w wc))
 case first =>
  have H:=HC25.out;clear HC25;replace H:=zT.mp H;obtain ⟨t353,A490,H⟩:=H;replace H : (if t353=true then ((Fa.f k t349 t334).bind fun t354 => (if t354=true then (F0.j0 k t331 t334 t337 t346 t349 t352 (t352 != t337) l0_0 a0_1 a1_0 a1_1 a1_2 t338 t341) else (F0.j0 k t331 t334 t337 t346 t349 t352 true l0_0 a0_1 a1_0 a1_1 a1_2 t338 t341))) else (F0.j0 k t331 t334 t337 t346 t349 t352 true l0_0 a0_1 a1_0 a1_1 a1_2 t338 t341))=some r:=H;have A49:=zh A490;clear A490
  by_cases c50 : t353=true
  ·
   subst c50
   have H1 : ((Fa.f k t349 t334).bind fun t354 => (if t354=true then (F0.j0 k t331 t334 t337 t346 t349 t352 (t352 != t337) l0_0 a0_1 a1_0 a1_1 a1_2 t338 t341) else (F0.j0 k t331 t334 t337 t346 t349 t352 true l0_0 a0_1 a1_0 a1_1 a1_2 t338 t341)))=some r:=by rw [if_pos rfl] at H;exact H
   clear H;have H:=H1;clear H1;replace H:=zT.mp H;obtain ⟨t354,A510,H⟩:=H;replace H : (if t354=true then (F0.j0 k t331 t334 t337 t346 t349 t352 (t352 != t337) l0_0 a0_1 a1_0 a1_1 a1_2 t338 t341) else (F0.j0 k t331 t334 t337 t346 t349 t352 true l0_0 a0_1 a1_0 a1_1 a1_2 t338 t341))=some r:=H;have A51:=zh A510;clear A510
   by_cases c52 : t354=true
   ·
    subst c52
    have H1 : (F0.j0 k t331 t334 t337 t346 t349 t352 (t352 != t337) l0_0 a0_1 a1_0 a1_1 a1_2 t338 t341)=some r:=by rw [if_pos rfl] at H;exact H
    clear H;have H:=H1;clear H1;have H':=zh H;clear H;obtain ⟨Ao53,co53,eo53⟩:=yk HO348.out;subst eo53;obtain ⟨Ao54,co54,eo54⟩:=yk HO333.out;subst eo54
    go_wp2_with (first|((with_reducible refine zJ (f:=12) rfl ?_);refine yj (some 50) rfl rfl Try.func12 (by kernel_rfl) rfl #[.slice Ao53 t346.length co53,.slice Ao54 t331.length co54] rfl (by (try simp only [zt,zu,zv]);first|done|rfl|(simp only [zw,zx];rfl)|(simp only [yr,ys,zV,zW];rfl)) ?_;(with_reducible refine (F8.calls k  _ _ t346 _ _ t331 true _ ?side1 ?side2 ?side3 ?side4 A49.out).mono ?_);(case side1 => repeat (first|exact (yh HO348.out).2.2|(with_reducible refine Kd.C_alloc ?_ _)|(with_reducible refine Kd.C_drewN ?_ _)|(with_reducible refine Kd.C_drew ?_)));(case side2 => exact (yh HO348.out).2.1);(case side3 => repeat (first|exact (yh HO333.out).2.2|(with_reducible refine Kd.C_alloc ?_ _)|(with_reducible refine Kd.C_drewN ?_ _)|(with_reducible refine Kd.C_drew ?_)));(case side4 => exact (yh HO333.out).2.1);rintro e w55 ⟨rfl,hb⟩;refine ⟨_,rfl,?_⟩;replace HO326:=zh (Kd.S_below (by (with_reducible repeat (first|apply Kd.S_alloc|apply Kd.S_drewN|apply Kd.S_drew));exact HO326.out) hb);replace HO333:=zh (yg (by (with_reducible repeat (first|apply zm|apply zn|apply zo));exact HO333.out) hb);replace HO336:=zh (yg (by (with_reducible repeat (first|apply zm|apply zn|apply zo));exact HO336.out) hb);replace HO340:=zh (Kd.S_below (by (with_reducible repeat (first|apply Kd.S_alloc|apply Kd.S_drewN|apply Kd.S_drew));exact HO340.out) hb);replace HO348:=zh (yg (by (with_reducible repeat (first|apply zm|apply zn|apply zo));exact HO348.out) hb);replace HO351:=zh (yg (by (with_reducible repeat (first|apply zm|apply zn|apply zo));exact HO351.out) hb);replace BK320:=zh (cD BK320.out (by (with_reducible repeat first|apply ze|apply zf|apply zg);exact BK320.out) hb);replace BK321:=zh (cD BK321.out (by (with_reducible repeat first|apply ze|apply zf|apply zg);exact BK321.out) hb);replace BK342:=zh (cD BK342.out (by (with_reducible repeat first|apply ze|apply zf|apply zg);exact BK342.out) hb);replace HB:=zh (zC (by repeat (with_reducible first|exact HB.out|apply za|apply zb|apply zc|refine zd ?_ GE320.out|refine zd ?_ GE321.out|refine zd ?_ GE342.out)) hb);(try clear hb);(try clear hb2);(try clear hk);(try clear hi);obtain ⟨Ao56,co56,eo56⟩:=yk HO351.out;subst eo56;obtain ⟨Ao57,co57,eo57⟩:=yk HO336.out;subst eo57)|(go_at_call 13;(with_reducible refine (Fa.calls k  _ _ t349 _ _ t334 true _ ?side1 ?side2 ?side3 ?side4 A51.out).mono ?_);(case side1 => repeat (first|exact (yh HO351.out).2.2|(with_reducible refine Kd.C_alloc ?_ _)|(with_reducible refine Kd.C_drewN ?_ _)|(with_reducible refine Kd.C_drew ?_)));(case side2 => exact (yh HO351.out).2.1);(case side3 => repeat (first|exact (yh HO336.out).2.2|(with_reducible refine Kd.C_alloc ?_ _)|(with_reducible refine Kd.C_drewN ?_ _)|(with_reducible refine Kd.C_drew ?_)));(case side4 => exact (yh HO336.out).2.1);rintro e w' ⟨rfl,⟨nd,rfl⟩⟩))
    go_meet
    case rel => exact ⟨_,((t352 != t337)),(by first|rfl|(simp;done)|(simp [*];done)),H',⟨by first|omega|exact ye _⟩,⟨by (with_reducible repeat (first|apply zm|apply zn|apply zo));exact zM HO333.out (fun _ hk => hk.2)⟩,⟨by (with_reducible repeat (first|apply zm|apply zn|apply zo));exact zM HO336.out (fun _ hk => hk.2)⟩,⟨by (with_reducible repeat (first|apply zm|apply zn|apply zo));exact zM HO348.out (fun _ hk => hk.2)⟩,⟨by (with_reducible repeat (first|apply zm|apply zn|apply zo));exact zM HO351.out (fun _ hk => hk.2)⟩,⟨by (with_reducible repeat (first|apply Kd.S_alloc|apply Kd.S_drewN|apply Kd.S_drew));exact Kd.S_mono HO340.out (fun _ hk => ⟨hk.1.2,hk.2⟩)⟩,⟨by (with_reducible repeat first|apply ze|apply zf|apply zg);exact BK320.out⟩,⟨by (with_reducible repeat first|apply ze|apply zf|apply zg);exact BK321.out⟩,⟨by (with_reducible repeat first|apply ze|apply zf|apply zg);exact BK342.out⟩,⟨by repeat (with_reducible first|exact HB.out|apply za|apply zb|apply zc|refine zd ?_ GE320.out|refine zd ?_ GE321.out|refine zd ?_ GE342.out)⟩⟩
   replace c52:=yb.mpr c52;subst c52;have H1 : (F0.j0 k t331 t334 t337 t346 t349 t352 true l0_0 a0_1 a1_0 a1_1 a1_2 t338 t341)=some r:=by rw [if_neg (show ¬ (false=true) by decide)] at H;exact H
   exact absurd H1 (by rw [hr_];apply F0.j0_no8)
  replace c50:=yb.mpr c50;subst c50;have H1 : (F0.j0 k t331 t334 t337 t346 t349 t352 true l0_0 a0_1 a1_0 a1_1 a1_2 t338 t341)=some r:=by rw [if_neg (show ¬ (false=true) by decide)] at H;exact H
  exact absurd H1 (by rw [hr_];apply F0.j0_no8)
 case rest =>
  clear HC25
  try clear c1 c2
  try clear p2
  try clear c3 c4 c4b0 c5 c6 c7 c8 c9 c10 c11 c11b0 c12 c14 c28 c42 c43 c50 c52
  try clear hcz15_0 hcz15_1
  try clear hcz17_0 hcz17_1 hcz17_2
  try clear hcz29_0 hcz29_1
  try clear hcz31_0 hcz31_1 hcz31_2
  try clear hcz38_0 hcz38_1
  try clear hcz44_0 hcz44_1
  try clear hcz8_0 hcz8_1
  try clear hfz15_0 hfz15_1
  try clear hfz17_0 hfz17_1 hfz17_2
  try clear hfz29_0 hfz29_1
  try clear hfz31_0 hfz31_1 hfz31_2
  try clear hfz38_0 hfz38_1
  try clear hfz44_0 hfz44_1
  try clear hfz8_0 hfz8_1
  obtain ⟨kq,x62_24,rfl,HA,HJ24,HO_6,HO_7,HO_10,HO_11,HO_343000,BK320,BK321,BK342,HB⟩:=hcut
  cases kq with
  | zero => exact absurd HA.out (by simp [F0.j0])
  | succ kj24 =>
   have H:=HA.out;clear HA;simp only [F0.j0] at H
   by_cases c66 : x62_24=true
   ·
    subst c66
    have H1 : (some false)=some r:=by rw [if_pos rfl] at H;exact H
    exact absurd H1 (by rw [hr_];decide)
   replace c66:=yb.mpr c66;subst c66;have H1 : ((Fp.f kj24 l0_0 a0_1).bind fun bt355 => ((F06.f kj24 t338 t341 bt355.1 bt355.2).bind fun t359 => (if t359=true then ((Fq.f kj24 t338 t341 1).bind fun t360 => (if t360<0 then (F0.j1 kj24 t331 t334 t337 t346 t349 true l0_0 a0_1 a1_0 a1_1 a1_2) else ((F8.f kj24 t346 t331).bind fun t361 => (if t361=true then ((Fa.f kj24 t349 t334).bind fun t362 => (if t362=true then (F0.j1 kj24 t331 t334 t337 t346 t349 (t352 != t337) l0_0 a0_1 a1_0 a1_1 a1_2) else (F0.j1 kj24 t331 t334 t337 t346 t349 true l0_0 a0_1 a1_0 a1_1 a1_2))) else (F0.j1 kj24 t331 t334 t337 t346 t349 true l0_0 a0_1 a1_0 a1_1 a1_2))))) else (some false))))=some r:=by rw [if_neg (show ¬ (false=true) by decide)] at H;exact H
   clear H;have H:=H1;clear H1;replace H:=zT.mp H;obtain ⟨⟨t355,t358⟩,A670,H⟩:=H;replace H : ((F06.f kj24 t338 t341 t355 t358).bind fun t359 => (if t359=true then ((Fq.f kj24 t338 t341 1).bind fun t360 => (if t360<0 then (F0.j1 kj24 t331 t334 t337 t346 t349 true l0_0 a0_1 a1_0 a1_1 a1_2) else ((F8.f kj24 t346 t331).bind fun t361 => (if t361=true then ((Fa.f kj24 t349 t334).bind fun t362 => (if t362=true then (F0.j1 kj24 t331 t334 t337 t346 t349 (t352 != t337) l0_0 a0_1 a1_0 a1_1 a1_2) else (F0.j1 kj24 t331 t334 t337 t346 t349 true l0_0 a0_1 a1_0 a1_1 a1_2))) else (F0.j1 kj24 t331 t334 t337 t346 t349 true l0_0 a0_1 a1_0 a1_1 a1_2))))) else (some false)))=some r:=H;have A67:=zh A670;clear A670;replace H:=zT.mp H;obtain ⟨t359,A680,H⟩:=H;replace H : (if t359=true then ((Fq.f kj24 t338 t341 1).bind fun t360 => (if t360<0 then (F0.j1 kj24 t331 t334 t337 t346 t349 true l0_0 a0_1 a1_0 a1_1 a1_2) else ((F8.f kj24 t346 t331).bind fun t361 => (if t361=true then ((Fa.f kj24 t349 t334).bind fun t362 => (if t362=true then (F0.j1 kj24 t331 t334 t337 t346 t349 (t352 != t337) l0_0 a0_1 a1_0 a1_1 a1_2) else (F0.j1 kj24 t331 t334 t337 t346 t349 true l0_0 a0_1 a1_0 a1_1 a1_2))) else (F0.j1 kj24 t331 t334 t337 t346 t349 true l0_0 a0_1 a1_0 a1_1 a1_2))))) else (some false))=some r:=H;have A68:=zh A680;clear A680
   by_cases c69 : t359=true
   ·
    subst c69
    have H1 : ((Fq.f kj24 t338 t341 1).bind fun t360 => (if t360<0 then (F0.j1 kj24 t331 t334 t337 t346 t349 true l0_0 a0_1 a1_0 a1_1 a1_2) else ((F8.f kj24 t346 t331).bind fun t361 => (if t361=true then ((Fa.f kj24 t349 t334).bind fun t362 => (if t362=true then (F0.j1 kj24 t331 t334 t337 t346 t349 (t352 != t337) l0_0 a0_1 a1_0 a1_1 a1_2) else (F0.j1 kj24 t331 t334 t337 t346 t349 true l0_0 a0_1 a1_0 a1_1 a1_2))) else (F0.j1 kj24 t331 t334 t337 t346 t349 true l0_0 a0_1 a1_0 a1_1 a1_2)))))=some r:=by rw [if_pos rfl] at H;exact H
    clear H;have H:=H1;clear H1;replace H:=zT.mp H;obtain ⟨t360,A700,H⟩:=H;replace H : (if t360<0 then (F0.j1 kj24 t331 t334 t337 t346 t349 true l0_0 a0_1 a1_0 a1_1 a1_2) else ((F8.f kj24 t346 t331).bind fun t361 => (if t361=true then ((Fa.f kj24 t349 t334).bind fun t362 => (if t362=true then (F0.j1 kj24 t331 t334 t337 t346 t349 (t352 != t337) l0_0 a0_1 a1_0 a1_1 a1_2) else (F0.j1 kj24 t331 t334 t337 t346 t349 true l0_0 a0_1 a1_0 a1_1 a1_2))) else (F0.j1 kj24 t331 t334 t337 t346 t349 true l0_0 a0_1 a1_0 a1_1 a1_2))))=some r:=H;have A70:=zh A700;clear A700;have HC71:=zh H;clear H
    try go_wp2
    replace HO_6:=zh (zo HO_6.out);replace HO_7:=zh (zo HO_7.out);replace HO_10:=zh (zo HO_10.out);replace HO_11:=zh (zo HO_11.out);replace HO_343000:=zh (Kd.S_drew HO_343000.out);replace BK320:=zh (zf BK320.out);replace BK321:=zh (zf BK321.out);replace BK342:=zh (zf BK342.out);replace HB:=zh (zc HB.out);refine start_ (n:=5) (S:=fun w' => w'.cell? ⟨gb342,0,none⟩=some (.slice Ao41 t338.length co41)∧w'.cell? ⟨gb342,1,none⟩=some (.int .i64 t341)∧w'.cell? ⟨gb320,0,none⟩=some (.slice A0_0 l0_0.length c0_0)∧w'.cell? ⟨gb320,1,none⟩=some (.int .i64 a0_1)) (ds:=[]) #[false,false,false,false,false] (by kernel_rfl) rfl rfl ⟨(zz BK342.out 0).trans rfl,(zz BK342.out 1).trans rfl,(zz BK320.out 0).trans rfl,(zz BK320.out 1).trans rfl⟩ (fun hHeld => ?_);generalize wc.drew=w72 at HO_6 HO_7 HO_10 HO_11 HO_343000 BK320 BK321 BK342 HB hHeld ⊢;refine take_ (i:=0) (N:=some 63) (v:=?_) (a':=?_) #[true,false,false,false,false] rfl rfl (by kernel_rfl) (fun _ _ _ h => h) (Or.inl ⟨by rfl,?_⟩) hHeld ?_ ?_;rotate_left
    ·
     rintro w' ⟨s0,s1,s2,s3⟩
     go_simp
     with_reducible rfl
    rotate_left
    ·
     simp only [Act.put,zi,zj,zk,zG,zH]
     rfl
    refine take_ (i:=1) (N:=some 64) (v:=?_) (a':=?_) #[true,true,false,false,false] rfl rfl (by kernel_rfl) (fun _ _ _ h => h) (Or.inl ⟨by rfl,?_⟩) hHeld ?_ ?_;rotate_left
    ·
     rintro w' ⟨s0,s1,s2,s3⟩
     go_simp
     with_reducible rfl
    rotate_left
    ·
     simp only [Act.put,zi,zj,zk,zG,zH]
     rfl
    refine one_ (i:=2) (N:=some 65) #[true,true,true,false,false] rfl rfl (by kernel_rfl) (by decide) (fun K hK => ?_);refine goes_ Try.func9 (by kernel_rfl) rfl #[.agg #[.slice A0_0 l0_0.length c0_0,.int .i64 a0_1]] (by rfl) rfl rfl (by (try simp only [zt,zu,zv]);first|done|rfl|(simp only [zw,zx];rfl)|(simp only [yr,ys,zV,zW];rfl)) ?_
    with_reducible refine (Fp.calls kj24  _ _ l0_0 a0_1 t355 t358 _ ?side1 ?side2 A67.out).mono ?_
    (case side1 => repeat (first|exact (Kd.C_below HR0_0.out HB.out)|(with_reducible refine Kd.C_alloc ?_ _)|(with_reducible refine Kd.C_drewN ?_ _)|(with_reducible refine Kd.C_drew ?_)))
    (case side2 => exact HC0_0.out)
    rintro e w73 ⟨v356,rfl,ho0,hb⟩;refine ⟨_,rfl,?_⟩;replace HO_7:=zh (yg (by (with_reducible repeat (first|apply zm|apply zn|apply zo));exact HO_7.out) hb);replace HO_11:=zh (yg (by (with_reducible repeat (first|apply zm|apply zn|apply zo));exact HO_11.out) hb);have HO357:=zh (Kd.S_lower (Kd.S_new' (Kd.S_new' (Kd.S_new' ho0 (Kd.R_lt (by (with_reducible repeat (first|apply zm|apply zn|apply zo));exact HO_6.out))) (Kd.R_lt (by (with_reducible repeat (first|apply zm|apply zn|apply zo));exact HO_10.out))) (Kd.S_lt (by (with_reducible repeat (first|apply Kd.S_alloc|apply Kd.S_drewN|apply Kd.S_drew));exact HO_343000.out))) (zB (by repeat (with_reducible first|exact HB.out|apply za|apply zb|apply zc|refine zd ?_ GE320.out|refine zd ?_ GE321.out|refine zd ?_ GE342.out))));replace HO_6:=zh (yg (by (with_reducible repeat (first|apply zm|apply zn|apply zo));exact HO_6.out) hb);replace HO_10:=zh (yg (by (with_reducible repeat (first|apply zm|apply zn|apply zo));exact HO_10.out) hb);replace HO_343000:=zh (Kd.S_elder' (by (with_reducible repeat (first|apply Kd.S_alloc|apply Kd.S_drewN|apply Kd.S_drew));exact HO_343000.out) (Kd.S_base ho0) hb);replace BK320:=zh (cD BK320.out (by (with_reducible repeat first|apply ze|apply zf|apply zg);exact BK320.out) hb);replace BK321:=zh (cD BK321.out (by (with_reducible repeat first|apply ze|apply zf|apply zg);exact BK321.out) hb);replace BK342:=zh (cD BK342.out (by (with_reducible repeat first|apply ze|apply zf|apply zg);exact BK342.out) hb);replace HB:=zh (zC (by repeat (with_reducible first|exact HB.out|apply za|apply zb|apply zc|refine zd ?_ GE320.out|refine zd ?_ GE321.out|refine zd ?_ GE342.out)) hb);(try clear hb);(try clear hb2);(try clear hk);(try clear hi);(try clear ho0);obtain ⟨Ao74,co74,eo74⟩:=Kd.S_slice HO357.out;(first|subst eo74|(injection eo74 with f1_ f2_ f3_;have f4_:=f1_.symm;have f5_:=f3_.symm;clear f1_ f2_ f3_;subst f4_;subst f5_));refine hK.out _ _ ⟨(zz BK342.out 0).trans rfl,(zz BK342.out 1).trans rfl,(zz BK320.out 0).trans rfl,(zz BK320.out 1).trans rfl⟩ (fun hHeld => ?_);clear hK K;refine norm_ (a':=?_) ?_ ?_;rotate_left
    ·
     show Act.put _ (some 65) _=_
     simp only [Act.put,zi,zj,zk,zG,zH]
     rfl
    refine one_ (i:=3) (N:=some 66) #[true,true,true,true,false] rfl rfl (by kernel_rfl) (by decide) (fun K hK => ?_);refine goes_ Try.func14 (by kernel_rfl) rfl #[.agg #[.slice Ao41 t338.length co41,.int .i64 t341],.agg #[.slice Ao74 t355.length co74,.int .i64 t358]] (by rfl) rfl rfl (by (try simp only [zt,zu,zv]);first|done|rfl|(simp only [zw,zx];rfl)|(simp only [yr,ys,zV,zW];rfl)) ?_
    with_reducible refine (F06.calls kj24  _ _ t338 t341 _ _ t355 t358 true _ ?side1 ?side2 ?side3 ?side4 A68.out).mono ?_
    (case side1 => repeat (first|exact (Kd.S_reads' HO_343000.out).2.2|(with_reducible refine Kd.C_alloc ?_ _)|(with_reducible refine Kd.C_drewN ?_ _)|(with_reducible refine Kd.C_drew ?_)))
    (case side2 => exact (Kd.S_reads' HO_343000.out).2.1)
    (case side3 => repeat (first|exact (Kd.S_reads' HO357.out).2.2|(with_reducible refine Kd.C_alloc ?_ _)|(with_reducible refine Kd.C_drewN ?_ _)|(with_reducible refine Kd.C_drew ?_)))
    (case side4 => exact (Kd.S_reads' HO357.out).2.1)
    rintro e w75 ⟨rfl,hb⟩;refine ⟨_,rfl,?_⟩;replace HO_6:=zh (yg (by (with_reducible repeat (first|apply zm|apply zn|apply zo));exact HO_6.out) hb);replace HO_7:=zh (yg (by (with_reducible repeat (first|apply zm|apply zn|apply zo));exact HO_7.out) hb);replace HO_10:=zh (yg (by (with_reducible repeat (first|apply zm|apply zn|apply zo));exact HO_10.out) hb);replace HO_11:=zh (yg (by (with_reducible repeat (first|apply zm|apply zn|apply zo));exact HO_11.out) hb);replace HO_343000:=zh (Kd.S_below (by (with_reducible repeat (first|apply Kd.S_alloc|apply Kd.S_drewN|apply Kd.S_drew));exact HO_343000.out) hb);replace HO357:=zh (Kd.S_below (by (with_reducible repeat (first|apply Kd.S_alloc|apply Kd.S_drewN|apply Kd.S_drew));exact HO357.out) hb);replace BK320:=zh (cD BK320.out (by (with_reducible repeat first|apply ze|apply zf|apply zg);exact BK320.out) hb);replace BK321:=zh (cD BK321.out (by (with_reducible repeat first|apply ze|apply zf|apply zg);exact BK321.out) hb);replace BK342:=zh (cD BK342.out (by (with_reducible repeat first|apply ze|apply zf|apply zg);exact BK342.out) hb);replace HB:=zh (zC (by repeat (with_reducible first|exact HB.out|apply za|apply zb|apply zc|refine zd ?_ GE320.out|refine zd ?_ GE321.out|refine zd ?_ GE342.out)) hb);(try clear hb);(try clear hb2);(try clear hk);(try clear hi);refine hK.out _ _ ⟨(zz BK342.out 0).trans rfl,(zz BK342.out 1).trans rfl,(zz BK320.out 0).trans rfl,(zz BK320.out 1).trans rfl⟩ (fun hHeld => ?_);clear hK K;refine norm_ (a':=?_) ?_ ?_;rotate_left
    ·
     show Act.put _ (some 66) _=_
     simp only [Act.put,zi,zj,zk,zG,zH]
     rfl
    refine pure_ (i:=4) (N:=some 67) (v:=?_) (a':=?_) #[true,true,true,true,true] rfl rfl (by kernel_rfl) (fun _ _ _ h => h) (Or.inl ⟨by rfl,?_⟩) ?_ ?_;rotate_left
    ·
     intro w'
     go_simp
     with_reducible rfl
    rotate_left
    ·
     simp only [Act.put,zi,zj,zk,zG,zH]
     rfl
    refine done_ (by kernel_rfl) ?_;have hnb76:=NB342_320.out;have hnc76:=NB320_342.out;have hnb77:=NB342_321.out;have hnc77:=NB321_342.out;obtain ⟨hcz78_0,hcz78_1,hfz78_0,hfz78_1⟩:=cB2 BK342.out
    go_upto_region 17 with (first|((with_reducible refine zJ (f:=15) rfl ?_);refine yj (some 70) rfl rfl Try.func15 (by kernel_rfl) rfl #[.agg #[.slice Ao41 t338.length co41,.int .i64 t341],.int .i64 1] rfl (by (try simp only [zt,zu,zv]);first|done|rfl|(simp only [zw,zx];rfl)|(simp only [yr,ys,zV,zW];rfl)) ?_;refine (Fq.step kj24 _ _ _ t338 t341 1 t360 w _ (by repeat (with_reducible first|exact HB.out|apply za|apply zb|apply zc)) (by (with_reducible repeat (first|apply Kd.S_alloc|apply Kd.S_drewN|apply Kd.S_drew));exact HO_343000.out) A70.out).mono ?_;rintro e w79 ⟨rfl,hB9,hM9⟩;refine ⟨_,rfl,?_⟩;replace HO_6:=zh (Fq.moved_row hM9 rfl (by (with_reducible repeat (first|apply zm|apply zn|apply zo));exact HO_6.out) (by first|exact .inr ⟨by decide,by decide⟩|(left;intro k_ hk_;first|exact hk_.1.1|exact hk_.1.2|exact hk_.1|exact hk_.2)));replace HO_7:=zh (Fq.moved_row hM9 rfl (by (with_reducible repeat (first|apply zm|apply zn|apply zo));exact HO_7.out) (by first|exact .inr ⟨by decide,by decide⟩|(left;intro k_ hk_;first|exact hk_.1.1|exact hk_.1.2|exact hk_.1|exact hk_.2)));replace HO_10:=zh (Fq.moved_row hM9 rfl (by (with_reducible repeat (first|apply zm|apply zn|apply zo));exact HO_10.out) (by first|exact .inr ⟨by decide,by decide⟩|(left;intro k_ hk_;first|exact hk_.1.1|exact hk_.1.2|exact hk_.1|exact hk_.2)));replace HO_11:=zh (Fq.moved_row hM9 rfl (by (with_reducible repeat (first|apply zm|apply zn|apply zo));exact HO_11.out) (by first|exact .inr ⟨by decide,by decide⟩|(left;intro k_ hk_;first|exact hk_.1.1|exact hk_.1.2|exact hk_.1|exact hk_.2)));replace HO_343000:=zh (Kd.S_nil k67 67 w79 w.heap.size (fun _ => True));replace HO357:=zh (Kd.S_nil k67 67 w79 w.heap.size (fun _ => True));replace BK320:=zh (Fq.moved_blk hM9 (by (with_reducible repeat first|apply ze|apply zf|apply zg);exact BK320.out) (by decide) (by decide));replace BK321:=zh (Fq.moved_blk hM9 (by (with_reducible repeat first|apply ze|apply zf|apply zg);exact BK321.out) (by decide) (by decide));replace BK342:=zh (Fq.moved_blk hM9 (by (with_reducible repeat first|apply ze|apply zf|apply zg);exact BK342.out) (by decide) (by decide));replace HB:=zh hB9;(try clear hB9 hM9);(try clear hb2);(try clear hk);(try clear hi)))
    (try simp only [Act.put,zi,zj,zk])
    go_cut [89] (fun v89 wc => ∃ (kq : Nat) (x89_70 : Bool),v89 = .bool x89_70∧Aside0 (F0.j1 kq t331 t334 t337 t346 t349 x89_70 l0_0 a0_1 a1_0 a1_1 a1_2=some r)∧Aside0 (kq≤kj24)∧Aside0 (Kd.R k51 51 wc w.heap.size (fun k_ => some k_≠(v347 : Value).ownBlock) v332 t331)∧Aside0 (Kd.R (Kd.int .i64) 3 wc w.heap.size (fun k_ => some k_≠(v350 : Value).ownBlock) v335 t334)∧Aside0 (Kd.R k51 51 wc w.heap.size (fun k_ => some k_≠(v332 : Value).ownBlock) v347 t346)∧Aside0 (Kd.R (Kd.int .i64) 3 wc w.heap.size (fun k_ => some k_≠(v335 : Value).ownBlock) v350 t349)∧Aside0 True∧Aside0 (wc.heap[gb320]? = some (.cells #[(.slice A0_0 l0_0.length c0_0),.int .i64 a0_1] 24 (0,0)))∧Aside0 (wc.heap[gb321]? = some (.cells #[.string a1_0,.string a1_1,.bool a1_2] 26 (0,0)))∧Aside0 (wc.heap[gb342]? = some (.cells #[(.slice Ao41 t338.length co41),.int .i64 t341] 35 (0,0)))∧Aside0 (Below w.heap.size w wc))
    case first =>
     have H:=HC71.out;clear HC71
     by_cases c80 : t360<0
     ·
      rw [if_pos c80] at H
      have c80b0 : decide (t360<0)=true:=decide_eq_true c80;clear c80;(first|rw [c80b0]|(simp only [zG,zH];rw [c80b0])|skip);have H':=zh H;clear H
      go_wp2
      go_meet
      case rel => exact ⟨_,(true),(by first|rfl|(simp;done)|(simp [*];done)),H',⟨by have:=HJ24.out;first|omega|exact ye _⟩,⟨by (with_reducible repeat (first|apply zm|apply zn|apply zo));exact HO_6.out⟩,⟨by (with_reducible repeat (first|apply zm|apply zn|apply zo));exact HO_7.out⟩,⟨by (with_reducible repeat (first|apply zm|apply zn|apply zo));exact HO_10.out⟩,⟨by (with_reducible repeat (first|apply zm|apply zn|apply zo));exact HO_11.out⟩,⟨trivial⟩,⟨by (with_reducible repeat first|apply ze|apply zf|apply zg);exact BK320.out⟩,⟨by (with_reducible repeat first|apply ze|apply zf|apply zg);exact BK321.out⟩,⟨by (with_reducible repeat first|apply ze|apply zf|apply zg);exact BK342.out⟩,⟨by repeat (with_reducible first|exact HB.out|apply za|apply zb|apply zc|refine zd ?_ GE320.out|refine zd ?_ GE321.out|refine zd ?_ GE342.out)⟩⟩
     rw [if_neg c80] at H;have c80b0 : decide (t360<0)=false:=decide_eq_false c80;clear c80;(first|rw [c80b0]|(simp only [zG,zH];rw [c80b0])|skip);replace H:=zT.mp H;obtain ⟨t361,A810,H⟩:=H;replace H : (if t361=true then ((Fa.f kj24 t349 t334).bind fun t362 => (if t362=true then (F0.j1 kj24 t331 t334 t337 t346 t349 (t352 != t337) l0_0 a0_1 a1_0 a1_1 a1_2) else (F0.j1 kj24 t331 t334 t337 t346 t349 true l0_0 a0_1 a1_0 a1_1 a1_2))) else (F0.j1 kj24 t331 t334 t337 t346 t349 true l0_0 a0_1 a1_0 a1_1 a1_2))=some r:=H;have A81:=zh A810;clear A810
     by_cases c82 : t361=true
     ·
      subst c82
      have H1 : ((Fa.f kj24 t349 t334).bind fun t362 => (if t362=true then (F0.j1 kj24 t331 t334 t337 t346 t349 (t352 != t337) l0_0 a0_1 a1_0 a1_1 a1_2) else (F0.j1 kj24 t331 t334 t337 t346 t349 true l0_0 a0_1 a1_0 a1_1 a1_2)))=some r:=by rw [if_pos rfl] at H;exact H
      clear H;have H:=H1;clear H1;replace H:=zT.mp H;obtain ⟨t362,A830,H⟩:=H;replace H : (if t362=true then (F0.j1 kj24 t331 t334 t337 t346 t349 (t352 != t337) l0_0 a0_1 a1_0 a1_1 a1_2) else (F0.j1 kj24 t331 t334 t337 t346 t349 true l0_0 a0_1 a1_0 a1_1 a1_2))=some r:=H;have A83:=zh A830;clear A830
      by_cases c84 : t362=true
      ·
       subst c84
       have H1 : (F0.j1 kj24 t331 t334 t337 t346 t349 (t352 != t337) l0_0 a0_1 a1_0 a1_1 a1_2)=some r:=by rw [if_pos rfl] at H;exact H
       clear H;have H:=H1;clear H1;have H':=zh H;clear H;obtain ⟨Ao85,co85,eo85⟩:=yk HO_10.out;subst eo85;obtain ⟨Ao86,co86,eo86⟩:=yk HO_6.out;subst eo86
       go_wp2_with (first|(go_at_call 12;(with_reducible refine (F8.calls kj24  _ _ t346 _ _ t331 true _ ?side1 ?side2 ?side3 ?side4 A81.out).mono ?_);(case side1 => repeat (first|exact (yh HO_10.out).2.2|(with_reducible refine Kd.C_alloc ?_ _)|(with_reducible refine Kd.C_drewN ?_ _)|(with_reducible refine Kd.C_drew ?_)));(case side2 => exact (yh HO_10.out).2.1);(case side3 => repeat (first|exact (yh HO_6.out).2.2|(with_reducible refine Kd.C_alloc ?_ _)|(with_reducible refine Kd.C_drewN ?_ _)|(with_reducible refine Kd.C_drew ?_)));(case side4 => exact (yh HO_6.out).2.1);rintro e w87 ⟨rfl,hb⟩;replace HO_6:=zh (yg (by (with_reducible repeat (first|apply zm|apply zn|apply zo));exact HO_6.out) hb);replace HO_7:=zh (yg (by (with_reducible repeat (first|apply zm|apply zn|apply zo));exact HO_7.out) hb);replace HO_10:=zh (yg (by (with_reducible repeat (first|apply zm|apply zn|apply zo));exact HO_10.out) hb);replace HO_11:=zh (yg (by (with_reducible repeat (first|apply zm|apply zn|apply zo));exact HO_11.out) hb);replace HO_343000:=zh trivial;replace HO357:=zh trivial;replace BK320:=zh (cD BK320.out (by (with_reducible repeat first|apply ze|apply zf|apply zg);exact BK320.out) hb);replace BK321:=zh (cD BK321.out (by (with_reducible repeat first|apply ze|apply zf|apply zg);exact BK321.out) hb);replace BK342:=zh (cD BK342.out (by (with_reducible repeat first|apply ze|apply zf|apply zg);exact BK342.out) hb);replace HB:=zh (zC (by repeat (with_reducible first|exact HB.out|apply za|apply zb|apply zc|refine zd ?_ GE320.out|refine zd ?_ GE321.out|refine zd ?_ GE342.out)) hb);(try clear hb);(try clear hb2);(try clear hk);(try clear hi);obtain ⟨Ao88,co88,eo88⟩:=yk HO_11.out;subst eo88;obtain ⟨Ao89,co89,eo89⟩:=yk HO_7.out;subst eo89)|(go_at_call 13;(with_reducible refine (Fa.calls kj24  _ _ t349 _ _ t334 true _ ?side1 ?side2 ?side3 ?side4 A83.out).mono ?_);(case side1 => repeat (first|exact (yh HO_11.out).2.2|(with_reducible refine Kd.C_alloc ?_ _)|(with_reducible refine Kd.C_drewN ?_ _)|(with_reducible refine Kd.C_drew ?_)));(case side2 => exact (yh HO_11.out).2.1);(case side3 => repeat (first|exact (yh HO_7.out).2.2|(with_reducible refine Kd.C_alloc ?_ _)|(with_reducible refine Kd.C_drewN ?_ _)|(with_reducible refine Kd.C_drew ?_)));(case side4 => exact (yh HO_7.out).2.1);rintro e w' ⟨rfl,⟨nd,rfl⟩⟩))
       go_meet
       case rel => exact ⟨_,((t352 != t337)),(by first|rfl|(simp;done)|(simp [*];done)),H',⟨by have:=HJ24.out;first|omega|exact ye _⟩,⟨by (with_reducible repeat (first|apply zm|apply zn|apply zo));exact HO_6.out⟩,⟨by (with_reducible repeat (first|apply zm|apply zn|apply zo));exact HO_7.out⟩,⟨by (with_reducible repeat (first|apply zm|apply zn|apply zo));exact HO_10.out⟩,⟨by (with_reducible repeat (first|apply zm|apply zn|apply zo));exact HO_11.out⟩,⟨trivial⟩,⟨by (with_reducible repeat first|apply ze|apply zf|apply zg);exact BK320.out⟩,⟨by (with_reducible repeat first|apply ze|apply zf|apply zg);exact BK321.out⟩,⟨by (with_reducible repeat first|apply ze|apply zf|apply zg);exact BK342.out⟩,⟨by repeat (with_reducible first|exact HB.out|apply za|apply zb|apply zc|refine zd ?_ GE320.out|refine zd ?_ GE321.out|refine zd ?_ GE342.out)⟩⟩
      replace c84:=yb.mpr c84;subst c84;have H1 : (F0.j1 kj24 t331 t334 t337 t346 t349 true l0_0 a0_1 a1_0 a1_1 a1_2)=some r:=by rw [if_neg (show ¬ (false=true) by decide)] at H;exact H
      exact absurd H1 (by rw [hr_];apply F0.j1_no7)
     replace c82:=yb.mpr c82;subst c82;have H1 : (F0.j1 kj24 t331 t334 t337 t346 t349 true l0_0 a0_1 a1_0 a1_1 a1_2)=some r:=by rw [if_neg (show ¬ (false=true) by decide)] at H;exact H
     exact absurd H1 (by rw [hr_];apply F0.j1_no7)
    case rest =>
     clear HC71
     try clear c1 c2
     try clear p2
     try clear c3 c4 c4b0 c5 c6 c7 c8 c9 c10 c11 c11b0 c12 c14 c15 c28 c42 c43 c50 c52 c66 c69 c76 c77 c80 c80b0 c82 c84
     try clear hcz15_0 hcz15_1
     try clear hcz17_0 hcz17_1 hcz17_2
     try clear hcz29_0 hcz29_1
     try clear hcz31_0 hcz31_1 hcz31_2
     try clear hcz38_0 hcz38_1
     try clear hcz44_0 hcz44_1
     try clear hcz78_0 hcz78_1
     try clear hcz8_0 hcz8_1
     try clear hfz15_0 hfz15_1
     try clear hfz17_0 hfz17_1 hfz17_2
     try clear hfz29_0 hfz29_1
     try clear hfz31_0 hfz31_1 hfz31_2
     try clear hfz38_0 hfz38_1
     try clear hfz44_0 hfz44_1
     try clear hfz78_0 hfz78_1
     try clear hfz8_0 hfz8_1
     try clear p2
     obtain ⟨kq,x89_70,rfl,HA,HJ70,HO_6,HO_7,HO_10,HO_11,HO_343000,BK320,BK321,BK342,HB⟩:=hcut
     cases kq with
     | zero => exact absurd HA.out (by simp [F0.j1])
     | succ kj70 =>
      have H:=HA.out;clear HA;simp only [F0.j1] at H
      by_cases c98 : x89_70=true
      ·
       subst c98
       have H1 : (some false)=some r:=by rw [if_pos rfl] at H;exact H
       exact absurd H1 (by rw [hr_];decide)
      replace c98:=yb.mpr c98;subst c98;have H1 : ((Fk.f kj70 t346 1).bind fun bt363 => ((Fo.f kj70 t349 bt363.1).bind fun bt365 => ((Fc.f kj70 bt363.2 1).bind fun t367 => (if t367<0 then (some false) else ((Fi.f kj70 bt365.2 t367).bind fun t368 => (if t368<0 then (some false) else (if t368=bt365.1 then ((Fp.f kj70 l0_0 a0_1).bind fun bt369 => ((Fz.f a1_0 a1_1 a1_2).bind fun bt373 => ((F9.f kj70 bt369.1 bt369.2 bt373.1 bt373.2.1 bt373.2.2).bind fun bt376 => ((F8.f kj70 bt376.1 t331).bind fun t383 => (if t383=true then ((Fa.f kj70 bt376.2.1 t334).bind fun t384 => (if t384=true then (F0.j2 kj70 bt363.2 bt365.2 bt365.1 (bt376.2.2 != t337)) else (F0.j2 kj70 bt363.2 bt365.2 bt365.1 true))) else (F0.j2 kj70 bt363.2 bt365.2 bt365.1 true)))))) else (some false))))))))=some r:=by rw [if_neg (show ¬ (false=true) by decide)] at H;exact H
      clear H;have H:=H1;clear H1;replace H:=zT.mp H;obtain ⟨⟨t363,t364⟩,A990,H⟩:=H;replace H : ((Fo.f kj70 t349 t363).bind fun bt365 => ((Fc.f kj70 t364 1).bind fun t367 => (if t367<0 then (some false) else ((Fi.f kj70 bt365.2 t367).bind fun t368 => (if t368<0 then (some false) else (if t368=bt365.1 then ((Fp.f kj70 l0_0 a0_1).bind fun bt369 => ((Fz.f a1_0 a1_1 a1_2).bind fun bt373 => ((F9.f kj70 bt369.1 bt369.2 bt373.1 bt373.2.1 bt373.2.2).bind fun bt376 => ((F8.f kj70 bt376.1 t331).bind fun t383 => (if t383=true then ((Fa.f kj70 bt376.2.1 t334).bind fun t384 => (if t384=true then (F0.j2 kj70 t364 bt365.2 bt365.1 (bt376.2.2 != t337)) else (F0.j2 kj70 t364 bt365.2 bt365.1 true))) else (F0.j2 kj70 t364 bt365.2 bt365.1 true)))))) else (some false)))))))=some r:=H;have A99:=zh A990;clear A990;replace H:=zT.mp H;obtain ⟨⟨t365,t366⟩,A1000,H⟩:=H;replace H : ((Fc.f kj70 t364 1).bind fun t367 => (if t367<0 then (some false) else ((Fi.f kj70 t366 t367).bind fun t368 => (if t368<0 then (some false) else (if t368=t365 then ((Fp.f kj70 l0_0 a0_1).bind fun bt369 => ((Fz.f a1_0 a1_1 a1_2).bind fun bt373 => ((F9.f kj70 bt369.1 bt369.2 bt373.1 bt373.2.1 bt373.2.2).bind fun bt376 => ((F8.f kj70 bt376.1 t331).bind fun t383 => (if t383=true then ((Fa.f kj70 bt376.2.1 t334).bind fun t384 => (if t384=true then (F0.j2 kj70 t364 t366 t365 (bt376.2.2 != t337)) else (F0.j2 kj70 t364 t366 t365 true))) else (F0.j2 kj70 t364 t366 t365 true)))))) else (some false))))))=some r:=H;have A100:=zh A1000;clear A1000;replace H:=zT.mp H;obtain ⟨t367,A1010,H⟩:=H;replace H : (if t367<0 then (some false) else ((Fi.f kj70 t366 t367).bind fun t368 => (if t368<0 then (some false) else (if t368=t365 then ((Fp.f kj70 l0_0 a0_1).bind fun bt369 => ((Fz.f a1_0 a1_1 a1_2).bind fun bt373 => ((F9.f kj70 bt369.1 bt369.2 bt373.1 bt373.2.1 bt373.2.2).bind fun bt376 => ((F8.f kj70 bt376.1 t331).bind fun t383 => (if t383=true then ((Fa.f kj70 bt376.2.1 t334).bind fun t384 => (if t384=true then (F0.j2 kj70 t364 t366 t365 (bt376.2.2 != t337)) else (F0.j2 kj70 t364 t366 t365 true))) else (F0.j2 kj70 t364 t366 t365 true)))))) else (some false)))))=some r:=H;have A101:=zh A1010;clear A1010
      by_cases c102 : t367<0
      ·
       rw [if_pos c102] at H
       have c102b0 : decide (t367<0)=true:=decide_eq_true c102;clear c102;obtain rfl:=zU H;obtain ⟨Ao103,co103,eo103⟩:=yk HO_10.out;subst eo103
       go_wp2_with (first|((with_reducible refine zJ (f:=16) rfl ?_);refine yj (some 92) rfl rfl Try.func16 (by kernel_rfl) rfl #[.slice Ao103 t346.length co103,.int .i64 1] rfl (by (try simp only [zt,zu,zv]);first|done|rfl|(simp only [zw,zx];rfl)|(simp only [yr,ys,zV,zW];rfl)) ?_;(with_reducible refine (Fk.calls kj70  (fun k_ => some k_=(.slice Ao103 t346.length co103 : Value).ownBlock) (.slice Ao103 t346.length co103) t346 1 t363 t364 w _ ?side1 ?side2 A99.out).mono ?_);(case side1 => repeat (with_reducible first|exact HB.out|apply za|apply zb|apply zc|refine zd ?_ GE320.out|refine zd ?_ GE321.out|refine zd ?_ GE342.out));(case side2 => exact Kd.R_tight rfl HO_10.out);rintro e w104 ⟨rfl,hy0,hb,hkp⟩;refine ⟨_,rfl,?_⟩;replace HO_6:=zh (zM (ok':=fun k_ => some k_≠(.slice Ao103 t346.length co103 : Value).ownBlock) (Kd.R_keptB (HO_6.out) hkp (fun k_ hk_ hs_ => (hk_) hs_)) (fun k_ hk_ => hk_.1));replace HO_7:=zh (zM (ok':=fun k_ => some k_≠(v350 : Value).ownBlock) (Kd.R_keptB ((Kd.R_apart' HO_7.out (Kd.R_typed HO_10.out) (by decide))) hkp (fun k_ hk_ hs_ => (hk_.2) hs_)) (fun k_ hk_ => hk_.1.1));replace HO_11:=zh (zM (ok':=fun k_ => some k_≠(v335 : Value).ownBlock) (Kd.R_keptB ((Kd.R_apart' HO_11.out (Kd.R_typed HO_10.out) (by decide))) hkp (fun k_ hk_ hs_ => (hk_.2) hs_)) (fun k_ hk_ => hk_.1.1));replace HO_343000:=zh trivial;replace BK320:=zh (blk_kept (by (with_reducible repeat first|apply ze|apply zf|apply zg);exact BK320.out) hkp (fun hs_ => (fun e_ => (Kd.R_ne HO_10.out BK320.out (by decide)) e_) hs_));replace BK321:=zh (blk_kept (by (with_reducible repeat first|apply ze|apply zf|apply zg);exact BK321.out) hkp (fun hs_ => (fun e_ => (Kd.R_ne HO_10.out BK321.out (by decide)) e_) hs_));replace BK342:=zh (blk_kept (by (with_reducible repeat first|apply ze|apply zf|apply zg);exact BK342.out) hkp (fun hs_ => (fun e_ => (Kd.R_ne HO_10.out BK342.out (by decide)) e_) hs_));replace HO_10:=zh (Kd.R_reok rfl hy0 (fun k_ e_ => HO_10.out.1 k_ e_));replace HB:=zh (hb);(try clear hb);(try clear hkp);(try clear hy0);obtain ⟨Ao105,co105,eo105⟩:=yk HO_11.out;subst eo105)|((with_reducible refine zJ (f:=17) rfl ?_);refine yj (some 95) rfl rfl Try.func17 (by kernel_rfl) rfl #[.slice Ao105 t349.length co105,.int .i64 t363] rfl (by (try simp only [zt,zu,zv]);first|done|rfl|(simp only [zw,zx];rfl)|(simp only [yr,ys,zV,zW];rfl)) ?_;(with_reducible refine (Fo.calls kj70  (fun k_ => some k_=(.slice Ao105 t349.length co105 : Value).ownBlock) (.slice Ao105 t349.length co105) t349 t363 t365 t366 w _ ?side1 ?side2 A100.out).mono ?_);(case side1 => repeat (with_reducible first|exact HB.out|apply za|apply zb|apply zc|refine zd ?_ GE320.out|refine zd ?_ GE321.out|refine zd ?_ GE342.out));(case side2 => exact Kd.R_tight rfl HO_11.out);rintro e w106 ⟨rfl,hy0,hb,hkp⟩;refine ⟨_,rfl,?_⟩;replace HO_6:=zh (zM (ok':=fun k_ => some k_≠(.slice Ao103 t346.length co103 : Value).ownBlock) (Kd.R_keptB ((Kd.R_apart' HO_6.out (Kd.R_typed HO_11.out) (by decide))) hkp (fun k_ hk_ hs_ => (hk_.2) hs_)) (fun k_ hk_ => hk_.1.1));replace HO_7:=zh (zM (ok':=fun k_ => some k_≠(.slice Ao105 t349.length co105 : Value).ownBlock) (Kd.R_keptB (HO_7.out) hkp (fun k_ hk_ hs_ => (hk_) hs_)) (fun k_ hk_ => hk_.1));replace HO_10:=zh (zM (ok':=fun k_ => some k_≠(v332 : Value).ownBlock) (Kd.R_keptB ((Kd.R_apart' HO_10.out (Kd.R_typed HO_11.out) (by decide))) hkp (fun k_ hk_ hs_ => (hk_.2) hs_)) (fun k_ hk_ => hk_.1.1));replace HO_343000:=zh trivial;replace BK320:=zh (blk_kept (by (with_reducible repeat first|apply ze|apply zf|apply zg);exact BK320.out) hkp (fun hs_ => (fun e_ => (Kd.R_ne HO_11.out BK320.out (by decide)) e_) hs_));replace BK321:=zh (blk_kept (by (with_reducible repeat first|apply ze|apply zf|apply zg);exact BK321.out) hkp (fun hs_ => (fun e_ => (Kd.R_ne HO_11.out BK321.out (by decide)) e_) hs_));replace BK342:=zh (blk_kept (by (with_reducible repeat first|apply ze|apply zf|apply zg);exact BK342.out) hkp (fun hs_ => (fun e_ => (Kd.R_ne HO_11.out BK342.out (by decide)) e_) hs_));replace HO_11:=zh (Kd.R_reok rfl hy0 (fun k_ e_ => HO_11.out.1 k_ e_));replace HB:=zh (hb);(try clear hb);(try clear hkp);(try clear hy0))|((with_reducible refine zJ (f:=18) rfl ?_);refine yj (some 98) rfl rfl Try.func18 (by kernel_rfl) rfl #[.slice Ao103 t364.length co103,.int .i64 1] rfl (by (try simp only [zt,zu,zv]);first|done|(rw [show t364.length=t346.length from (yh HO_10.out).1.symm] <;> rfl)|rfl|(simp only [zw,zx];rfl)|(simp only [yr,ys,zV,zW];rfl)) ?_;(with_reducible refine (Fc.calls kj70  _ _ t364 1 t367 _ ?side1 ?side2 A101.out).mono ?_);(case side1 => repeat (first|exact (yh HO_10.out).2.2|(with_reducible refine Kd.C_alloc ?_ _)|(with_reducible refine Kd.C_drewN ?_ _)|(with_reducible refine Kd.C_drew ?_)));(case side2 => rw [show t364.length=t346.length from (yh HO_10.out).1.symm];exact (yh HO_10.out).2.1);rintro e w107 ⟨rfl,hb⟩;refine ⟨_,rfl,?_⟩;replace HO_6:=zh (yg (by (with_reducible repeat (first|apply zm|apply zn|apply zo));exact HO_6.out) hb);replace HO_7:=zh (yg (by (with_reducible repeat (first|apply zm|apply zn|apply zo));exact HO_7.out) hb);replace HO_10:=zh (yg (by (with_reducible repeat (first|apply zm|apply zn|apply zo));exact HO_10.out) hb);replace HO_11:=zh (yg (by (with_reducible repeat (first|apply zm|apply zn|apply zo));exact HO_11.out) hb);replace HO_343000:=zh trivial;replace BK320:=zh (cD BK320.out (by (with_reducible repeat first|apply ze|apply zf|apply zg);exact BK320.out) hb);replace BK321:=zh (cD BK321.out (by (with_reducible repeat first|apply ze|apply zf|apply zg);exact BK321.out) hb);replace BK342:=zh (cD BK342.out (by (with_reducible repeat first|apply ze|apply zf|apply zg);exact BK342.out) hb);replace HB:=zh (zC (by repeat (with_reducible first|exact HB.out|apply za|apply zb|apply zc|refine zd ?_ GE320.out|refine zd ?_ GE321.out|refine zd ?_ GE342.out)) hb);(try clear hb);(try clear hb2);(try clear hk);(try clear hi)))
       go_ret
       exact ⟨by first|rfl|(simp [yt,yu] <;> rfl)|(simp [*,yt,yu] <;> rfl),by repeat (with_reducible first|exact HB.out|apply za|apply zb|apply zc|refine zd ?_ GE320.out|refine zd ?_ GE321.out|refine zd ?_ GE342.out)⟩
      rw [if_neg c102] at H;have c102b0 : decide (t367<0)=false:=decide_eq_false c102;clear c102;replace H:=zT.mp H;obtain ⟨t368,A1080,H⟩:=H;replace H : (if t368<0 then (some false) else (if t368=t365 then ((Fp.f kj70 l0_0 a0_1).bind fun bt369 => ((Fz.f a1_0 a1_1 a1_2).bind fun bt373 => ((F9.f kj70 bt369.1 bt369.2 bt373.1 bt373.2.1 bt373.2.2).bind fun bt376 => ((F8.f kj70 bt376.1 t331).bind fun t383 => (if t383=true then ((Fa.f kj70 bt376.2.1 t334).bind fun t384 => (if t384=true then (F0.j2 kj70 t364 t366 t365 (bt376.2.2 != t337)) else (F0.j2 kj70 t364 t366 t365 true))) else (F0.j2 kj70 t364 t366 t365 true)))))) else (some false)))=some r:=H;have A108:=zh A1080;clear A1080
      by_cases c109 : t368<0
      ·
       rw [if_pos c109] at H
       have c109b0 : decide (t368<0)=true:=decide_eq_true c109;clear c109;obtain rfl:=zU H;obtain ⟨Ao110,co110,eo110⟩:=yk HO_10.out;subst eo110
       go_wp2_with (first|((with_reducible refine zJ (f:=16) rfl ?_);refine yj (some 92) rfl rfl Try.func16 (by kernel_rfl) rfl #[.slice Ao110 t346.length co110,.int .i64 1] rfl (by (try simp only [zt,zu,zv]);first|done|rfl|(simp only [zw,zx];rfl)|(simp only [yr,ys,zV,zW];rfl)) ?_;(with_reducible refine (Fk.calls kj70  (fun k_ => some k_=(.slice Ao110 t346.length co110 : Value).ownBlock) (.slice Ao110 t346.length co110) t346 1 t363 t364 w _ ?side1 ?side2 A99.out).mono ?_);(case side1 => repeat (with_reducible first|exact HB.out|apply za|apply zb|apply zc|refine zd ?_ GE320.out|refine zd ?_ GE321.out|refine zd ?_ GE342.out));(case side2 => exact Kd.R_tight rfl HO_10.out);rintro e w111 ⟨rfl,hy0,hb,hkp⟩;refine ⟨_,rfl,?_⟩;replace HO_6:=zh (zM (ok':=fun k_ => some k_≠(.slice Ao110 t346.length co110 : Value).ownBlock) (Kd.R_keptB (HO_6.out) hkp (fun k_ hk_ hs_ => (hk_) hs_)) (fun k_ hk_ => hk_.1));replace HO_7:=zh (zM (ok':=fun k_ => some k_≠(v350 : Value).ownBlock) (Kd.R_keptB ((Kd.R_apart' HO_7.out (Kd.R_typed HO_10.out) (by decide))) hkp (fun k_ hk_ hs_ => (hk_.2) hs_)) (fun k_ hk_ => hk_.1.1));replace HO_11:=zh (zM (ok':=fun k_ => some k_≠(v335 : Value).ownBlock) (Kd.R_keptB ((Kd.R_apart' HO_11.out (Kd.R_typed HO_10.out) (by decide))) hkp (fun k_ hk_ hs_ => (hk_.2) hs_)) (fun k_ hk_ => hk_.1.1));replace HO_343000:=zh trivial;replace BK320:=zh (blk_kept (by (with_reducible repeat first|apply ze|apply zf|apply zg);exact BK320.out) hkp (fun hs_ => (fun e_ => (Kd.R_ne HO_10.out BK320.out (by decide)) e_) hs_));replace BK321:=zh (blk_kept (by (with_reducible repeat first|apply ze|apply zf|apply zg);exact BK321.out) hkp (fun hs_ => (fun e_ => (Kd.R_ne HO_10.out BK321.out (by decide)) e_) hs_));replace BK342:=zh (blk_kept (by (with_reducible repeat first|apply ze|apply zf|apply zg);exact BK342.out) hkp (fun hs_ => (fun e_ => (Kd.R_ne HO_10.out BK342.out (by decide)) e_) hs_));replace HO_10:=zh (Kd.R_reok rfl hy0 (fun k_ e_ => HO_10.out.1 k_ e_));replace HB:=zh (hb);(try clear hb);(try clear hkp);(try clear hy0);obtain ⟨Ao112,co112,eo112⟩:=yk HO_11.out;subst eo112)|((with_reducible refine zJ (f:=17) rfl ?_);refine yj (some 95) rfl rfl Try.func17 (by kernel_rfl) rfl #[.slice Ao112 t349.length co112,.int .i64 t363] rfl (by (try simp only [zt,zu,zv]);first|done|rfl|(simp only [zw,zx];rfl)|(simp only [yr,ys,zV,zW];rfl)) ?_;(with_reducible refine (Fo.calls kj70  (fun k_ => some k_=(.slice Ao112 t349.length co112 : Value).ownBlock) (.slice Ao112 t349.length co112) t349 t363 t365 t366 w _ ?side1 ?side2 A100.out).mono ?_);(case side1 => repeat (with_reducible first|exact HB.out|apply za|apply zb|apply zc|refine zd ?_ GE320.out|refine zd ?_ GE321.out|refine zd ?_ GE342.out));(case side2 => exact Kd.R_tight rfl HO_11.out);rintro e w113 ⟨rfl,hy0,hb,hkp⟩;refine ⟨_,rfl,?_⟩;replace HO_6:=zh (zM (ok':=fun k_ => some k_≠(.slice Ao110 t346.length co110 : Value).ownBlock) (Kd.R_keptB ((Kd.R_apart' HO_6.out (Kd.R_typed HO_11.out) (by decide))) hkp (fun k_ hk_ hs_ => (hk_.2) hs_)) (fun k_ hk_ => hk_.1.1));replace HO_7:=zh (zM (ok':=fun k_ => some k_≠(.slice Ao112 t349.length co112 : Value).ownBlock) (Kd.R_keptB (HO_7.out) hkp (fun k_ hk_ hs_ => (hk_) hs_)) (fun k_ hk_ => hk_.1));replace HO_10:=zh (zM (ok':=fun k_ => some k_≠(v332 : Value).ownBlock) (Kd.R_keptB ((Kd.R_apart' HO_10.out (Kd.R_typed HO_11.out) (by decide))) hkp (fun k_ hk_ hs_ => (hk_.2) hs_)) (fun k_ hk_ => hk_.1.1));replace HO_343000:=zh trivial;replace BK320:=zh (blk_kept (by (with_reducible repeat first|apply ze|apply zf|apply zg);exact BK320.out) hkp (fun hs_ => (fun e_ => (Kd.R_ne HO_11.out BK320.out (by decide)) e_) hs_));replace BK321:=zh (blk_kept (by (with_reducible repeat first|apply ze|apply zf|apply zg);exact BK321.out) hkp (fun hs_ => (fun e_ => (Kd.R_ne HO_11.out BK321.out (by decide)) e_) hs_));replace BK342:=zh (blk_kept (by (with_reducible repeat first|apply ze|apply zf|apply zg);exact BK342.out) hkp (fun hs_ => (fun e_ => (Kd.R_ne HO_11.out BK342.out (by decide)) e_) hs_));replace HO_11:=zh (Kd.R_reok rfl hy0 (fun k_ e_ => HO_11.out.1 k_ e_));replace HB:=zh (hb);(try clear hb);(try clear hkp);(try clear hy0))|((with_reducible refine zJ (f:=18) rfl ?_);refine yj (some 98) rfl rfl Try.func18 (by kernel_rfl) rfl #[.slice Ao110 t364.length co110,.int .i64 1] rfl (by (try simp only [zt,zu,zv]);first|done|(rw [show t364.length=t346.length from (yh HO_10.out).1.symm] <;> rfl)|rfl|(simp only [zw,zx];rfl)|(simp only [yr,ys,zV,zW];rfl)) ?_;(with_reducible refine (Fc.calls kj70  _ _ t364 1 t367 _ ?side1 ?side2 A101.out).mono ?_);(case side1 => repeat (first|exact (yh HO_10.out).2.2|(with_reducible refine Kd.C_alloc ?_ _)|(with_reducible refine Kd.C_drewN ?_ _)|(with_reducible refine Kd.C_drew ?_)));(case side2 => rw [show t364.length=t346.length from (yh HO_10.out).1.symm];exact (yh HO_10.out).2.1);rintro e w114 ⟨rfl,hb⟩;refine ⟨_,rfl,?_⟩;replace HO_6:=zh (yg (by (with_reducible repeat (first|apply zm|apply zn|apply zo));exact HO_6.out) hb);replace HO_7:=zh (yg (by (with_reducible repeat (first|apply zm|apply zn|apply zo));exact HO_7.out) hb);replace HO_10:=zh (yg (by (with_reducible repeat (first|apply zm|apply zn|apply zo));exact HO_10.out) hb);replace HO_11:=zh (yg (by (with_reducible repeat (first|apply zm|apply zn|apply zo));exact HO_11.out) hb);replace HO_343000:=zh trivial;replace BK320:=zh (cD BK320.out (by (with_reducible repeat first|apply ze|apply zf|apply zg);exact BK320.out) hb);replace BK321:=zh (cD BK321.out (by (with_reducible repeat first|apply ze|apply zf|apply zg);exact BK321.out) hb);replace BK342:=zh (cD BK342.out (by (with_reducible repeat first|apply ze|apply zf|apply zg);exact BK342.out) hb);replace HB:=zh (zC (by repeat (with_reducible first|exact HB.out|apply za|apply zb|apply zc|refine zd ?_ GE320.out|refine zd ?_ GE321.out|refine zd ?_ GE342.out)) hb);(try clear hb);(try clear hb2);(try clear hk);(try clear hi))|((with_reducible refine zJ (f:=19) rfl ?_);refine yj (some 103) rfl rfl Try.func19 (by kernel_rfl) rfl #[.slice Ao112 t366.length co112,.int .i64 t367] rfl (by (try simp only [zt,zu,zv]);first|done|(rw [show t366.length=t349.length from (yh HO_11.out).1.symm] <;> rfl)|rfl|(simp only [zw,zx];rfl)|(simp only [yr,ys,zV,zW];rfl)) ?_;(with_reducible refine (Fi.calls kj70  _ _ t366 t367 t368 _ ?side1 ?side2 A108.out).mono ?_);(case side1 => repeat (first|exact (yh HO_11.out).2.2|(with_reducible refine Kd.C_alloc ?_ _)|(with_reducible refine Kd.C_drewN ?_ _)|(with_reducible refine Kd.C_drew ?_)));(case side2 => rw [show t366.length=t349.length from (yh HO_11.out).1.symm];exact (yh HO_11.out).2.1);rintro e w' ⟨rfl,⟨nd,rfl⟩⟩;refine ⟨_,rfl,?_⟩))
       go_ret
       exact ⟨by first|rfl|(simp [yt,yu] <;> rfl)|(simp [*,yt,yu] <;> rfl),by repeat (with_reducible first|exact HB.out|apply za|apply zb|apply zc|refine zd ?_ GE320.out|refine zd ?_ GE321.out|refine zd ?_ GE342.out)⟩
      rw [if_neg c109] at H;have c109b0 : decide (t368<0)=false:=decide_eq_false c109;clear c109
      by_cases c115 : t368=t365
      ·
       rw [if_pos c115] at H
       have c115b0 : (t368 == t365)=true:=ya.mpr c115;have c115b1 : (t368 != t365)=false:=zX.mpr c115;clear c115;replace H:=zT.mp H;obtain ⟨⟨t369,t372⟩,A1160,H⟩:=H;replace H : ((Fz.f a1_0 a1_1 a1_2).bind fun bt373 => ((F9.f kj70 t369 t372 bt373.1 bt373.2.1 bt373.2.2).bind fun bt376 => ((F8.f kj70 bt376.1 t331).bind fun t383 => (if t383=true then ((Fa.f kj70 bt376.2.1 t334).bind fun t384 => (if t384=true then (F0.j2 kj70 t364 t366 t365 (bt376.2.2 != t337)) else (F0.j2 kj70 t364 t366 t365 true))) else (F0.j2 kj70 t364 t366 t365 true)))))=some r:=H;have A116:=zh A1160;clear A1160;replace H:=zT.mp H;obtain ⟨⟨t373,t374,t375⟩,A1170,H⟩:=H;replace H : ((F9.f kj70 t369 t372 t373 t374 t375).bind fun bt376 => ((F8.f kj70 bt376.1 t331).bind fun t383 => (if t383=true then ((Fa.f kj70 bt376.2.1 t334).bind fun t384 => (if t384=true then (F0.j2 kj70 t364 t366 t365 (bt376.2.2 != t337)) else (F0.j2 kj70 t364 t366 t365 true))) else (F0.j2 kj70 t364 t366 t365 true))))=some r:=H;have A117:=zh A1170;clear A1170;replace H:=zT.mp H;obtain ⟨⟨t376,t379,t382⟩,A1180,H⟩:=H;replace H : ((F8.f kj70 t376 t331).bind fun t383 => (if t383=true then ((Fa.f kj70 t379 t334).bind fun t384 => (if t384=true then (F0.j2 kj70 t364 t366 t365 (t382 != t337)) else (F0.j2 kj70 t364 t366 t365 true))) else (F0.j2 kj70 t364 t366 t365 true)))=some r:=H;have A118:=zh A1180;clear A1180;have HC119:=zh H;clear H;obtain ⟨Ao120,co120,eo120⟩:=yk HO_10.out;subst eo120
       try go_wp2_with (first|((with_reducible refine zJ (f:=16) rfl ?_);refine yj (some 92) rfl rfl Try.func16 (by kernel_rfl) rfl #[.slice Ao120 t346.length co120,.int .i64 1] rfl (by (try simp only [zt,zu,zv]);first|done|rfl|(simp only [zw,zx];rfl)|(simp only [yr,ys,zV,zW];rfl)) ?_;(with_reducible refine (Fk.calls kj70  (fun k_ => some k_=(.slice Ao120 t346.length co120 : Value).ownBlock) (.slice Ao120 t346.length co120) t346 1 t363 t364 w _ ?side1 ?side2 A99.out).mono ?_);(case side1 => repeat (with_reducible first|exact HB.out|apply za|apply zb|apply zc|refine zd ?_ GE320.out|refine zd ?_ GE321.out|refine zd ?_ GE342.out));(case side2 => exact Kd.R_tight rfl HO_10.out);rintro e w121 ⟨rfl,hy0,hb,hkp⟩;refine ⟨_,rfl,?_⟩;replace HO_6:=zh (zM (ok':=fun k_ => some k_≠(.slice Ao120 t346.length co120 : Value).ownBlock) (Kd.R_keptB (HO_6.out) hkp (fun k_ hk_ hs_ => (hk_) hs_)) (fun k_ hk_ => hk_.1));replace HO_7:=zh (zM (ok':=fun k_ => some k_≠(v350 : Value).ownBlock) (Kd.R_keptB ((Kd.R_apart' HO_7.out (Kd.R_typed HO_10.out) (by decide))) hkp (fun k_ hk_ hs_ => (hk_.2) hs_)) (fun k_ hk_ => hk_.1.1));replace HO_11:=zh (zM (ok':=fun k_ => some k_≠(v335 : Value).ownBlock) (Kd.R_keptB ((Kd.R_apart' HO_11.out (Kd.R_typed HO_10.out) (by decide))) hkp (fun k_ hk_ hs_ => (hk_.2) hs_)) (fun k_ hk_ => hk_.1.1));replace HO_343000:=zh trivial;replace BK320:=zh (blk_kept (by (with_reducible repeat first|apply ze|apply zf|apply zg);exact BK320.out) hkp (fun hs_ => (fun e_ => (Kd.R_ne HO_10.out BK320.out (by decide)) e_) hs_));replace BK321:=zh (blk_kept (by (with_reducible repeat first|apply ze|apply zf|apply zg);exact BK321.out) hkp (fun hs_ => (fun e_ => (Kd.R_ne HO_10.out BK321.out (by decide)) e_) hs_));replace BK342:=zh (blk_kept (by (with_reducible repeat first|apply ze|apply zf|apply zg);exact BK342.out) hkp (fun hs_ => (fun e_ => (Kd.R_ne HO_10.out BK342.out (by decide)) e_) hs_));replace HO_10:=zh (Kd.R_reok rfl hy0 (fun k_ e_ => HO_10.out.1 k_ e_));replace HB:=zh (hb);(try clear hb);(try clear hkp);(try clear hy0);obtain ⟨Ao122,co122,eo122⟩:=yk HO_11.out;subst eo122)|((with_reducible refine zJ (f:=17) rfl ?_);refine yj (some 95) rfl rfl Try.func17 (by kernel_rfl) rfl #[.slice Ao122 t349.length co122,.int .i64 t363] rfl (by (try simp only [zt,zu,zv]);first|done|rfl|(simp only [zw,zx];rfl)|(simp only [yr,ys,zV,zW];rfl)) ?_;(with_reducible refine (Fo.calls kj70  (fun k_ => some k_=(.slice Ao122 t349.length co122 : Value).ownBlock) (.slice Ao122 t349.length co122) t349 t363 t365 t366 w _ ?side1 ?side2 A100.out).mono ?_);(case side1 => repeat (with_reducible first|exact HB.out|apply za|apply zb|apply zc|refine zd ?_ GE320.out|refine zd ?_ GE321.out|refine zd ?_ GE342.out));(case side2 => exact Kd.R_tight rfl HO_11.out);rintro e w123 ⟨rfl,hy0,hb,hkp⟩;refine ⟨_,rfl,?_⟩;replace HO_6:=zh (zM (ok':=fun k_ => some k_≠(.slice Ao120 t346.length co120 : Value).ownBlock) (Kd.R_keptB ((Kd.R_apart' HO_6.out (Kd.R_typed HO_11.out) (by decide))) hkp (fun k_ hk_ hs_ => (hk_.2) hs_)) (fun k_ hk_ => hk_.1.1));replace HO_7:=zh (zM (ok':=fun k_ => some k_≠(.slice Ao122 t349.length co122 : Value).ownBlock) (Kd.R_keptB (HO_7.out) hkp (fun k_ hk_ hs_ => (hk_) hs_)) (fun k_ hk_ => hk_.1));replace HO_10:=zh (zM (ok':=fun k_ => some k_≠(v332 : Value).ownBlock) (Kd.R_keptB ((Kd.R_apart' HO_10.out (Kd.R_typed HO_11.out) (by decide))) hkp (fun k_ hk_ hs_ => (hk_.2) hs_)) (fun k_ hk_ => hk_.1.1));replace HO_343000:=zh trivial;replace BK320:=zh (blk_kept (by (with_reducible repeat first|apply ze|apply zf|apply zg);exact BK320.out) hkp (fun hs_ => (fun e_ => (Kd.R_ne HO_11.out BK320.out (by decide)) e_) hs_));replace BK321:=zh (blk_kept (by (with_reducible repeat first|apply ze|apply zf|apply zg);exact BK321.out) hkp (fun hs_ => (fun e_ => (Kd.R_ne HO_11.out BK321.out (by decide)) e_) hs_));replace BK342:=zh (blk_kept (by (with_reducible repeat first|apply ze|apply zf|apply zg);exact BK342.out) hkp (fun hs_ => (fun e_ => (Kd.R_ne HO_11.out BK342.out (by decide)) e_) hs_));replace HO_11:=zh (Kd.R_reok rfl hy0 (fun k_ e_ => HO_11.out.1 k_ e_));replace HB:=zh (hb);(try clear hb);(try clear hkp);(try clear hy0))|((with_reducible refine zJ (f:=18) rfl ?_);refine yj (some 98) rfl rfl Try.func18 (by kernel_rfl) rfl #[.slice Ao120 t364.length co120,.int .i64 1] rfl (by (try simp only [zt,zu,zv]);first|done|(rw [show t364.length=t346.length from (yh HO_10.out).1.symm] <;> rfl)|rfl|(simp only [zw,zx];rfl)|(simp only [yr,ys,zV,zW];rfl)) ?_;(with_reducible refine (Fc.calls kj70  _ _ t364 1 t367 _ ?side1 ?side2 A101.out).mono ?_);(case side1 => repeat (first|exact (yh HO_10.out).2.2|(with_reducible refine Kd.C_alloc ?_ _)|(with_reducible refine Kd.C_drewN ?_ _)|(with_reducible refine Kd.C_drew ?_)));(case side2 => rw [show t364.length=t346.length from (yh HO_10.out).1.symm];exact (yh HO_10.out).2.1);rintro e w124 ⟨rfl,hb⟩;refine ⟨_,rfl,?_⟩;replace HO_6:=zh (yg (by (with_reducible repeat (first|apply zm|apply zn|apply zo));exact HO_6.out) hb);replace HO_7:=zh (yg (by (with_reducible repeat (first|apply zm|apply zn|apply zo));exact HO_7.out) hb);replace HO_10:=zh (yg (by (with_reducible repeat (first|apply zm|apply zn|apply zo));exact HO_10.out) hb);replace HO_11:=zh (yg (by (with_reducible repeat (first|apply zm|apply zn|apply zo));exact HO_11.out) hb);replace HO_343000:=zh trivial;replace BK320:=zh (cD BK320.out (by (with_reducible repeat first|apply ze|apply zf|apply zg);exact BK320.out) hb);replace BK321:=zh (cD BK321.out (by (with_reducible repeat first|apply ze|apply zf|apply zg);exact BK321.out) hb);replace BK342:=zh (cD BK342.out (by (with_reducible repeat first|apply ze|apply zf|apply zg);exact BK342.out) hb);replace HB:=zh (zC (by repeat (with_reducible first|exact HB.out|apply za|apply zb|apply zc|refine zd ?_ GE320.out|refine zd ?_ GE321.out|refine zd ?_ GE342.out)) hb);(try clear hb);(try clear hb2);(try clear hk);(try clear hi))|((with_reducible refine zJ (f:=19) rfl ?_);refine yj (some 103) rfl rfl Try.func19 (by kernel_rfl) rfl #[.slice Ao122 t366.length co122,.int .i64 t367] rfl (by (try simp only [zt,zu,zv]);first|done|(rw [show t366.length=t349.length from (yh HO_11.out).1.symm] <;> rfl)|rfl|(simp only [zw,zx];rfl)|(simp only [yr,ys,zV,zW];rfl)) ?_;(with_reducible refine (Fi.calls kj70  _ _ t366 t367 t368 _ ?side1 ?side2 A108.out).mono ?_);(case side1 => repeat (first|exact (yh HO_11.out).2.2|(with_reducible refine Kd.C_alloc ?_ _)|(with_reducible refine Kd.C_drewN ?_ _)|(with_reducible refine Kd.C_drew ?_)));(case side2 => rw [show t366.length=t349.length from (yh HO_11.out).1.symm];exact (yh HO_11.out).2.1);rintro e w' ⟨rfl,⟨nd,rfl⟩⟩;refine ⟨_,rfl,?_⟩))
       (try (rw [drewN_self w124];generalize hq_ : World.drewN w124 _=w124;replace HO_10 : Aside0 (Kd.R k51 51 w124 w.heap.size (fun k_ => some k_≠(v332 : Value).ownBlock) (.slice Ao120 t346.length co120) t364):=⟨by rw [← hq_];exact (by (with_reducible repeat (first|apply zm|apply zn|apply zo));exact HO_10.out)⟩;replace HO_11 : Aside0 (Kd.R (Kd.int .i64) 3 w124 w.heap.size (fun k_ => some k_≠(v335 : Value).ownBlock) (.slice Ao122 t349.length co122) t366):=⟨by rw [← hq_];exact (by (with_reducible repeat (first|apply zm|apply zn|apply zo));exact HO_11.out)⟩;replace HO_343000 : Aside0 True:=⟨trivial⟩;replace HO_6 : Aside0 (Kd.R k51 51 w124 w.heap.size (fun k_ => some k_≠(.slice Ao120 t346.length co120 : Value).ownBlock) v332 t331):=⟨by rw [← hq_];exact (by (with_reducible repeat (first|apply zm|apply zn|apply zo));exact HO_6.out)⟩;replace HO_7 : Aside0 (Kd.R (Kd.int .i64) 3 w124 w.heap.size (fun k_ => some k_≠(.slice Ao122 t349.length co122 : Value).ownBlock) v335 t334):=⟨by rw [← hq_];exact (by (with_reducible repeat (first|apply zm|apply zn|apply zo));exact HO_7.out)⟩;replace BK320 : Aside0 (w124.heap[gb320]? = some (.cells #[.slice A0_0 l0_0.length c0_0,.int .i64 a0_1] 24 (0,0))):=⟨by rw [← hq_];exact (by (with_reducible repeat first|apply ze|apply zf|apply zg);exact BK320.out)⟩;replace BK321 : Aside0 (w124.heap[gb321]? = some (.cells #[.string a1_0,.string a1_1,.bool a1_2] 26 (0,0))):=⟨by rw [← hq_];exact (by (with_reducible repeat first|apply ze|apply zf|apply zg);exact BK321.out)⟩;replace BK342 : Aside0 (w124.heap[gb342]? = some (.cells #[.slice Ao41 t338.length co41,.int .i64 t341] 35 (0,0))):=⟨by rw [← hq_];exact (by (with_reducible repeat first|apply ze|apply zf|apply zg);exact BK342.out)⟩;replace HB : Aside0 (Below w.heap.size w w124):=⟨by rw [← hq_];exact (by repeat (with_reducible first|exact HB.out|apply za|apply zb|apply zc|refine zd ?_ GE320.out|refine zd ?_ GE321.out|refine zd ?_ GE342.out))⟩;clear hq_));replace HO_6:=zh (zo HO_6.out);replace HO_7:=zh (zo HO_7.out);replace HO_10:=zh (zo HO_10.out);replace HO_11:=zh (zo HO_11.out);replace HO_343000:=zh trivial;replace BK320:=zh (zf BK320.out);replace BK321:=zh (zf BK321.out);replace BK342:=zh (zf BK342.out);replace HB:=zh (zc HB.out);refine start_ (n:=12) (S:=fun w' => w'.cell? ⟨gb320,0,none⟩=some (.slice A0_0 l0_0.length c0_0)∧w'.cell? ⟨gb320,1,none⟩=some (.int .i64 a0_1)∧w'.cell? ⟨gb321,0,none⟩=some (.string a1_0)∧w'.cell? ⟨gb321,1,none⟩=some (.string a1_1)∧w'.cell? ⟨gb321,2,none⟩=some (.bool a1_2)) (ds:=[]) (bm_ 0 12) (by kernel_rfl) rfl rfl ⟨(zz BK320.out 0).trans rfl,(zz BK320.out 1).trans rfl,(zz BK321.out 0).trans rfl,(zz BK321.out 1).trans rfl,(zz BK321.out 2).trans rfl⟩ (fun hHeld => ?_);refine with_tabW F0.tab31 F0.bits31 (fun HT_ HW_ => ?_);generalize w124.drew=w125 at HO_6 HO_7 HO_10 HO_11 HO_343000 BK320 BK321 BK342 HB hHeld ⊢;refine take_ (i:=0) (N:=some 110) (v:=?_) (a':=?_) (bm_ 1 12) rfl rfl (yo HT_.out HW_.out (by kernel_rfl)) (fun _ _ _ h => h) (Or.inl ⟨by rfl,?_⟩) hHeld ?_ ?_;rotate_left
       ·
        rintro w' ⟨s0,s1,s2,s3,s4⟩
        go_simp
        with_reducible rfl
       rotate_left
       ·
        simp only [Act.put,zi,zj,zk,zG,zH]
        rfl
       refine take_ (i:=2) (N:=some 112) (v:=?_) (a':=?_) #[true,false,true,false,false,false,false,false,false,false,false,false] rfl rfl (yo HT_.out HW_.out (by kernel_rfl)) (fun _ _ _ h => h) (Or.inl ⟨by rfl,?_⟩) hHeld ?_ ?_;rotate_left
       ·
        rintro w' ⟨s0,s1,s2,s3,s4⟩
        go_simp
        with_reducible rfl
       rotate_left
       ·
        simp only [Act.put,zi,zj,zk,zG,zH]
        rfl
       refine one_ (i:=1) (N:=some 111) (bm_ 3 12) rfl rfl (one_of HT_.out (by kernel_rfl)) (by decide) (fun K hK => ?_);refine goes_ Try.func9 (by kernel_rfl) rfl #[.agg #[.slice A0_0 l0_0.length c0_0,.int .i64 a0_1]] (by rfl) rfl rfl (by (try simp only [zt,zu,zv]);first|done|rfl|(simp only [zw,zx];rfl)|(simp only [yr,ys,zV,zW];rfl)) ?_
       with_reducible refine (Fp.calls kj70  _ _ l0_0 a0_1 t369 t372 _ ?side1 ?side2 A116.out).mono ?_
       (case side1 => repeat (first|exact (Kd.C_below HR0_0.out HB.out)|(with_reducible refine Kd.C_alloc ?_ _)|(with_reducible refine Kd.C_drewN ?_ _)|(with_reducible refine Kd.C_drew ?_)))
       (case side2 => exact HC0_0.out)
       rintro e w126 ⟨v370,rfl,ho0,hb⟩;refine ⟨_,rfl,?_⟩;replace HO_7:=zh (yg (by (with_reducible repeat (first|apply zm|apply zn|apply zo));exact HO_7.out) hb);replace HO_11:=zh (yg (by (with_reducible repeat (first|apply zm|apply zn|apply zo));exact HO_11.out) hb);replace HO_343000:=zh trivial;have HO371:=zh (Kd.S_lower (Kd.S_new' (Kd.S_new' ho0 (Kd.R_lt (by (with_reducible repeat (first|apply zm|apply zn|apply zo));exact HO_6.out))) (Kd.R_lt (by (with_reducible repeat (first|apply zm|apply zn|apply zo));exact HO_10.out))) (zB (by repeat (with_reducible first|exact HB.out|apply za|apply zb|apply zc|refine zd ?_ GE320.out|refine zd ?_ GE321.out|refine zd ?_ GE342.out))));replace HO_6:=zh (yg (by (with_reducible repeat (first|apply zm|apply zn|apply zo));exact HO_6.out) hb);replace HO_10:=zh (yg (by (with_reducible repeat (first|apply zm|apply zn|apply zo));exact HO_10.out) hb);replace BK320:=zh (cD BK320.out (by (with_reducible repeat first|apply ze|apply zf|apply zg);exact BK320.out) hb);replace BK321:=zh (cD BK321.out (by (with_reducible repeat first|apply ze|apply zf|apply zg);exact BK321.out) hb);replace BK342:=zh (cD BK342.out (by (with_reducible repeat first|apply ze|apply zf|apply zg);exact BK342.out) hb);replace HB:=zh (zC (by repeat (with_reducible first|exact HB.out|apply za|apply zb|apply zc|refine zd ?_ GE320.out|refine zd ?_ GE321.out|refine zd ?_ GE342.out)) hb);(try clear hb);(try clear hb2);(try clear hk);(try clear hi);(try clear ho0);refine hK.out _ _ ⟨(zz BK320.out 0).trans rfl,(zz BK320.out 1).trans rfl,(zz BK321.out 0).trans rfl,(zz BK321.out 1).trans rfl,(zz BK321.out 2).trans rfl⟩ (fun hHeld => ?_);clear hK K;refine norm_ (a':=?_) ?_ ?_;rotate_left
       ·
        show Act.put _ (some 111) _=_
        simp only [Act.put,zi,zj,zk,zG,zH]
        rfl
       refine one_ (i:=3) (N:=some 113) (bm_ 4 12) rfl rfl (one_of HT_.out (by kernel_rfl)) (by decide) (fun K hK => ?_);refine goes_ Try.func10 (by kernel_rfl) rfl #[.agg #[.string a1_0,.string a1_1,.bool a1_2]] (by rfl) rfl rfl (by (try simp only [zt,zu,zv]);first|done|rfl|(simp only [zw,zx];rfl)|(simp only [yr,ys,zV,zW];rfl)) ?_
       with_reducible refine (Fz.calls  a1_0 a1_1 a1_2 t373 t374 t375 _ A117.out).mono ?_
       rintro e w127 ⟨rfl,hb⟩;refine ⟨_,rfl,?_⟩;replace HO_6:=zh (yg (by (with_reducible repeat (first|apply zm|apply zn|apply zo));exact HO_6.out) hb);replace HO_7:=zh (yg (by (with_reducible repeat (first|apply zm|apply zn|apply zo));exact HO_7.out) hb);replace HO_10:=zh (yg (by (with_reducible repeat (first|apply zm|apply zn|apply zo));exact HO_10.out) hb);replace HO_11:=zh (yg (by (with_reducible repeat (first|apply zm|apply zn|apply zo));exact HO_11.out) hb);replace HO_343000:=zh trivial;replace HO371:=zh (Kd.S_below (by (with_reducible repeat (first|apply Kd.S_alloc|apply Kd.S_drewN|apply Kd.S_drew));exact HO371.out) hb);replace BK320:=zh (cD BK320.out (by (with_reducible repeat first|apply ze|apply zf|apply zg);exact BK320.out) hb);replace BK321:=zh (cD BK321.out (by (with_reducible repeat first|apply ze|apply zf|apply zg);exact BK321.out) hb);replace BK342:=zh (cD BK342.out (by (with_reducible repeat first|apply ze|apply zf|apply zg);exact BK342.out) hb);replace HB:=zh (zC (by repeat (with_reducible first|exact HB.out|apply za|apply zb|apply zc|refine zd ?_ GE320.out|refine zd ?_ GE321.out|refine zd ?_ GE342.out)) hb);(try clear hb);(try clear hb2);(try clear hk);(try clear hi);obtain ⟨Ao128,co128,eo128⟩:=Kd.S_slice HO371.out;(first|subst eo128|(injection eo128 with f1_ f2_ f3_;have f4_:=f1_.symm;have f5_:=f3_.symm;clear f1_ f2_ f3_;subst f4_;subst f5_));refine hK.out _ _ ⟨(zz BK320.out 0).trans rfl,(zz BK320.out 1).trans rfl,(zz BK321.out 0).trans rfl,(zz BK321.out 1).trans rfl,(zz BK321.out 2).trans rfl⟩ (fun hHeld => ?_);clear hK K;refine norm_ (a':=?_) ?_ ?_;rotate_left
       ·
        show Act.put _ (some 113) _=_
        simp only [Act.put,zi,zj,zk,zG,zH]
        rfl
       refine one_ (i:=4) (N:=some 114) (bm_ 5 12) rfl rfl (one_of HT_.out (by kernel_rfl)) (by decide) (fun K hK => ?_);refine goes_ Try.func11 (by kernel_rfl) rfl #[.agg #[.slice Ao128 t369.length co128,.int .i64 t372],.agg #[.string t373,.string t374,.bool t375]] (by rfl) rfl rfl (by (try simp only [zt,zu,zv]);first|done|rfl|(simp only [zw,zx];rfl)|(simp only [yr,ys,zV,zW];rfl)) ?_
       with_reducible refine (F9.calls kj70  _ _ t369 t372 t373 t374 t375 t376 t379 t382 _ ?side1 ?side2 A118.out).mono ?_
       (case side1 => repeat (first|exact (Kd.S_reads' HO371.out).2.2|(with_reducible refine Kd.C_alloc ?_ _)|(with_reducible refine Kd.C_drewN ?_ _)|(with_reducible refine Kd.C_drew ?_)))
       (case side2 => exact (Kd.S_reads' HO371.out).2.1)
       rintro e w129 ⟨v377,v380,rfl,ho0,ho1,hb⟩;refine ⟨_,rfl,?_⟩;replace HO_343000:=zh trivial;replace HO371:=zh (Kd.S_elder' (by (with_reducible repeat (first|apply Kd.S_alloc|apply Kd.S_drewN|apply Kd.S_drew));exact HO371.out) (Kd.R_base ho0) hb);have HO378:=zh (yx (Kd.R_new' (Kd.R_new' ho0 (Kd.R_lt (by (with_reducible repeat (first|apply zm|apply zn|apply zo));exact HO_6.out))) (Kd.R_lt (by (with_reducible repeat (first|apply zm|apply zn|apply zo));exact HO_10.out))) (zB (by repeat (with_reducible first|exact HB.out|apply za|apply zb|apply zc|refine zd ?_ GE320.out|refine zd ?_ GE321.out|refine zd ?_ GE342.out))));replace HO_6:=zh (Kd.R_elder' (by (with_reducible repeat (first|apply zm|apply zn|apply zo));exact HO_6.out) (Kd.R_base ho0) hb);replace HO_10:=zh (Kd.R_elder' (by (with_reducible repeat (first|apply zm|apply zn|apply zo));exact HO_10.out) (Kd.R_base ho0) hb);have HO381:=zh (yx (Kd.R_new' (Kd.R_new' ho1 (Kd.R_lt (by (with_reducible repeat (first|apply zm|apply zn|apply zo));exact HO_7.out))) (Kd.R_lt (by (with_reducible repeat (first|apply zm|apply zn|apply zo));exact HO_11.out))) (zB (by repeat (with_reducible first|exact HB.out|apply za|apply zb|apply zc|refine zd ?_ GE320.out|refine zd ?_ GE321.out|refine zd ?_ GE342.out))));replace HO_7:=zh (Kd.R_elder' (by (with_reducible repeat (first|apply zm|apply zn|apply zo));exact HO_7.out) (Kd.R_base ho1) hb);replace HO_11:=zh (Kd.R_elder' (by (with_reducible repeat (first|apply zm|apply zn|apply zo));exact HO_11.out) (Kd.R_base ho1) hb);replace BK320:=zh (cD BK320.out (by (with_reducible repeat first|apply ze|apply zf|apply zg);exact BK320.out) hb);replace BK321:=zh (cD BK321.out (by (with_reducible repeat first|apply ze|apply zf|apply zg);exact BK321.out) hb);replace BK342:=zh (cD BK342.out (by (with_reducible repeat first|apply ze|apply zf|apply zg);exact BK342.out) hb);replace HB:=zh (zC (by repeat (with_reducible first|exact HB.out|apply za|apply zb|apply zc|refine zd ?_ GE320.out|refine zd ?_ GE321.out|refine zd ?_ GE342.out)) hb);(try clear hb);(try clear hb2);(try clear hk);(try clear hi);(try clear ho0);(try clear ho1);refine hK.out _ _ ⟨(zz BK320.out 0).trans rfl,(zz BK320.out 1).trans rfl,(zz BK321.out 0).trans rfl,(zz BK321.out 1).trans rfl,(zz BK321.out 2).trans rfl⟩ (fun hHeld => ?_);clear hK K;refine norm_ (a':=?_) ?_ ?_;rotate_left
       ·
        show Act.put _ (some 114) _=_
        simp only [Act.put,zi,zj,zk,zG,zH]
        rfl
       refine pure_ (i:=5) (N:=some 109) (v:=?_) (a':=?_) (bm_ 6 12) rfl rfl (any_of HT_.out (by kernel_rfl)) (fun _ _ _ h => h) (Or.inl ⟨by rfl,?_⟩) ?_ ?_;rotate_left
       ·
        intro w'
        go_simp
        with_reducible rfl
       rotate_left
       ·
        simp only [Act.put,zi,zj,zk,zG,zH]
        rfl
       refine pure_ (i:=6) (N:=some 115) (v:=?_) (a':=?_) (bm_ 7 12) rfl rfl (any_of HT_.out (by kernel_rfl)) (fun _ _ _ h => h) (Or.inl ⟨by rfl,?_⟩) ?_ ?_;rotate_left
       ·
        intro w'
        go_simp
        with_reducible rfl
       rotate_left
       ·
        simp only [Act.put,zi,zj,zk,zG,zH]
        rfl
       refine pure_ (i:=7) (N:=some 116) (v:=?_) (a':=?_) (bm_ 8 12) rfl rfl (any_of HT_.out (by kernel_rfl)) (fun _ _ _ h => h) (Or.inl ⟨by rfl,?_⟩) ?_ ?_;rotate_left
       ·
        intro w'
        go_simp
        with_reducible rfl
       rotate_left
       ·
        simp only [Act.put,zi,zj,zk,zG,zH]
        rfl
       refine pure_ (i:=8) (N:=some 117) (v:=?_) (a':=?_) (bm_ 9 12) rfl rfl (any_of HT_.out (by kernel_rfl)) (fun _ _ _ h => h) (Or.inl ⟨by rfl,?_⟩) ?_ ?_;rotate_left
       ·
        intro w'
        go_simp
        with_reducible rfl
       rotate_left
       ·
        simp only [Act.put,zi,zj,zk,zG,zH]
        rfl
       refine pure_ (i:=9) (N:=some 16) (v:=?_) (a':=?_) (bm_ 10 12) rfl rfl (any_of HT_.out (by kernel_rfl)) (fun _ _ _ h => h) (Or.inl ⟨by rfl,?_⟩) ?_ ?_;rotate_left
       ·
        intro w'
        go_simp
        with_reducible rfl
       rotate_left
       ·
        simp only [Act.put,zi,zj,zk,zG,zH]
        rfl
       refine pure_ (i:=10) (N:=some 17) (v:=?_) (a':=?_) (bm_ 11 12) rfl rfl (any_of HT_.out (by kernel_rfl)) (fun _ _ _ h => h) (Or.inl ⟨by rfl,?_⟩) ?_ ?_;rotate_left
       ·
        intro w'
        go_simp
        with_reducible rfl
       rotate_left
       ·
        simp only [Act.put,zi,zj,zk,zG,zH]
        rfl
       refine pure_ (i:=11) (N:=some 18) (v:=?_) (a':=?_) (bm_ 12 12) rfl rfl (any_of HT_.out (by kernel_rfl)) (fun _ _ _ h => h) (Or.inl ⟨by rfl,?_⟩) ?_ ?_;rotate_left
       ·
        intro w'
        go_simp
        with_reducible rfl
       rotate_left
       ·
        simp only [Act.put,zi,zj,zk,zG,zH]
        rfl
       refine done_ (done_of HT_.out (by kernel_rfl)) ?_
       go_upto_region 32 with (fail)
       go_cut [132] (fun v132 wc => ∃ (kq : Nat) (x132_118 : Bool),v132 = .bool x132_118∧Aside0 (F0.j2 kq t364 t366 t365 x132_118=some r)∧Aside0 (kq≤kj70)∧Aside0 (Kd.R k51 51 wc w.heap.size (fun _ => True) (.slice Ao120 t346.length co120) t364)∧Aside0 (Kd.R (Kd.int .i64) 3 wc w.heap.size (fun _ => True) (.slice Ao122 t349.length co122) t366)∧Aside0 True∧Aside0 (wc.heap[gb320]? = some (.cells #[(.slice A0_0 l0_0.length c0_0),.int .i64 a0_1] 24 (0,0)))∧Aside0 (wc.heap[gb321]? = some (.cells #[.string a1_0,.string a1_1,.bool a1_2] 26 (0,0)))∧Aside0 (wc.heap[gb342]? = some (.cells #[(.slice Ao41 t338.length co41),.int .i64 t341] 35 (0,0)))∧Aside0 (Below w.heap.size w wc))
       case first =>
        have H:=HC119.out;clear HC119;replace H:=zT.mp H;obtain ⟨t383,A1300,H⟩:=H;replace H : (if t383=true then ((Fa.f kj70 t379 t334).bind fun t384 => (if t384=true then (F0.j2 kj70 t364 t366 t365 (t382 != t337)) else (F0.j2 kj70 t364 t366 t365 true))) else (F0.j2 kj70 t364 t366 t365 true))=some r:=H;have A130:=zh A1300;clear A1300
        by_cases c131 : t383=true
        ·
         subst c131
         have H1 : ((Fa.f kj70 t379 t334).bind fun t384 => (if t384=true then (F0.j2 kj70 t364 t366 t365 (t382 != t337)) else (F0.j2 kj70 t364 t366 t365 true)))=some r:=by rw [if_pos rfl] at H;exact H
         clear H;have H:=H1;clear H1;replace H:=zT.mp H;obtain ⟨t384,A1320,H⟩:=H;replace H : (if t384=true then (F0.j2 kj70 t364 t366 t365 (t382 != t337)) else (F0.j2 kj70 t364 t366 t365 true))=some r:=H;have A132:=zh A1320;clear A1320
         by_cases c133 : t384=true
         ·
          subst c133
          have H1 : (F0.j2 kj70 t364 t366 t365 (t382 != t337))=some r:=by rw [if_pos rfl] at H;exact H
          clear H;have H:=H1;clear H1;have H':=zh H;clear H;obtain ⟨Ao134,co134,eo134⟩:=yk HO378.out;subst eo134;obtain ⟨Ao135,co135,eo135⟩:=yk HO_6.out;subst eo135
          go_wp2_with (first|((with_reducible refine zJ (f:=12) rfl ?_);refine yj (some 120) rfl rfl Try.func12 (by kernel_rfl) rfl #[.slice Ao134 t376.length co134,.slice Ao135 t331.length co135] rfl (by (try simp only [zt,zu,zv]);first|done|rfl|(simp only [zw,zx];rfl)|(simp only [yr,ys,zV,zW];rfl)) ?_;(with_reducible refine (F8.calls kj70  _ _ t376 _ _ t331 true _ ?side1 ?side2 ?side3 ?side4 A130.out).mono ?_);(case side1 => repeat (first|exact (yh HO378.out).2.2|(with_reducible refine Kd.C_alloc ?_ _)|(with_reducible refine Kd.C_drewN ?_ _)|(with_reducible refine Kd.C_drew ?_)));(case side2 => exact (yh HO378.out).2.1);(case side3 => repeat (first|exact (yh HO_6.out).2.2|(with_reducible refine Kd.C_alloc ?_ _)|(with_reducible refine Kd.C_drewN ?_ _)|(with_reducible refine Kd.C_drew ?_)));(case side4 => exact (yh HO_6.out).2.1);rintro e w136 ⟨rfl,hb⟩;refine ⟨_,rfl,?_⟩;replace HO_6:=zh (yg (by (with_reducible repeat (first|apply zm|apply zn|apply zo));exact HO_6.out) hb);replace HO_7:=zh (yg (by (with_reducible repeat (first|apply zm|apply zn|apply zo));exact HO_7.out) hb);replace HO_10:=zh (yg (by (with_reducible repeat (first|apply zm|apply zn|apply zo));exact HO_10.out) hb);replace HO_11:=zh (yg (by (with_reducible repeat (first|apply zm|apply zn|apply zo));exact HO_11.out) hb);replace HO_343000:=zh trivial;replace HO371:=zh (Kd.S_below (by (with_reducible repeat (first|apply Kd.S_alloc|apply Kd.S_drewN|apply Kd.S_drew));exact HO371.out) hb);replace HO378:=zh (yg (by (with_reducible repeat (first|apply zm|apply zn|apply zo));exact HO378.out) hb);replace HO381:=zh (yg (by (with_reducible repeat (first|apply zm|apply zn|apply zo));exact HO381.out) hb);replace BK320:=zh (cD BK320.out (by (with_reducible repeat first|apply ze|apply zf|apply zg);exact BK320.out) hb);replace BK321:=zh (cD BK321.out (by (with_reducible repeat first|apply ze|apply zf|apply zg);exact BK321.out) hb);replace BK342:=zh (cD BK342.out (by (with_reducible repeat first|apply ze|apply zf|apply zg);exact BK342.out) hb);replace HB:=zh (zC (by repeat (with_reducible first|exact HB.out|apply za|apply zb|apply zc|refine zd ?_ GE320.out|refine zd ?_ GE321.out|refine zd ?_ GE342.out)) hb);(try clear hb);(try clear hb2);(try clear hk);(try clear hi);obtain ⟨Ao137,co137,eo137⟩:=yk HO381.out;subst eo137;obtain ⟨Ao138,co138,eo138⟩:=yk HO_7.out;subst eo138)|(go_at_call 13;(with_reducible refine (Fa.calls kj70  _ _ t379 _ _ t334 true _ ?side1 ?side2 ?side3 ?side4 A132.out).mono ?_);(case side1 => repeat (first|exact (yh HO381.out).2.2|(with_reducible refine Kd.C_alloc ?_ _)|(with_reducible refine Kd.C_drewN ?_ _)|(with_reducible refine Kd.C_drew ?_)));(case side2 => exact (yh HO381.out).2.1);(case side3 => repeat (first|exact (yh HO_7.out).2.2|(with_reducible refine Kd.C_alloc ?_ _)|(with_reducible refine Kd.C_drewN ?_ _)|(with_reducible refine Kd.C_drew ?_)));(case side4 => exact (yh HO_7.out).2.1);rintro e w' ⟨rfl,⟨nd,rfl⟩⟩))
          go_meet
          case rel => exact ⟨_,((t382 != t337)),(by first|rfl|(simp;done)|(simp [*];done)),H',⟨by have:=HJ24.out;have:=HJ70.out;first|omega|exact ye _⟩,⟨by (with_reducible repeat (first|apply zm|apply zn|apply zo));exact zM HO_10.out (fun _ hk => trivial)⟩,⟨by (with_reducible repeat (first|apply zm|apply zn|apply zo));exact zM HO_11.out (fun _ hk => trivial)⟩,⟨trivial⟩,⟨by (with_reducible repeat first|apply ze|apply zf|apply zg);exact BK320.out⟩,⟨by (with_reducible repeat first|apply ze|apply zf|apply zg);exact BK321.out⟩,⟨by (with_reducible repeat first|apply ze|apply zf|apply zg);exact BK342.out⟩,⟨by repeat (with_reducible first|exact HB.out|apply za|apply zb|apply zc|refine zd ?_ GE320.out|refine zd ?_ GE321.out|refine zd ?_ GE342.out)⟩⟩
         replace c133:=yb.mpr c133;subst c133;have H1 : (F0.j2 kj70 t364 t366 t365 true)=some r:=by rw [if_neg (show ¬ (false=true) by decide)] at H;exact H
         exact absurd H1 (by rw [hr_];apply F0.j2_no5)
        replace c131:=yb.mpr c131;subst c131;have H1 : (F0.j2 kj70 t364 t366 t365 true)=some r:=by rw [if_neg (show ¬ (false=true) by decide)] at H;exact H
        exact absurd H1 (by rw [hr_];apply F0.j2_no5)
       case rest =>
        clear HC119
        try clear c1 c2
        try clear p2
        try clear c3 c4 c4b0 c5 c6 c7 c8 c9 c10 c11 c11b0 c12 c13 c14 c15 c16 c17 c18 c19 c28 c42 c43 c50 c52 c66 c69 c76 c77 c80 c80b0 c82 c84 c98 c102 c102b0 c109 c109b0 c115 c115b0 c115b1 c131 c133
        try clear hcz15_0 hcz15_1
        try clear hcz17_0 hcz17_1 hcz17_2
        try clear hcz29_0 hcz29_1
        try clear hcz31_0 hcz31_1 hcz31_2
        try clear hcz38_0 hcz38_1
        try clear hcz44_0 hcz44_1
        try clear hcz78_0 hcz78_1
        try clear hcz8_0 hcz8_1
        try clear hfz15_0 hfz15_1
        try clear hfz17_0 hfz17_1 hfz17_2
        try clear hfz29_0 hfz29_1
        try clear hfz31_0 hfz31_1 hfz31_2
        try clear hfz38_0 hfz38_1
        try clear hfz44_0 hfz44_1
        try clear hfz78_0 hfz78_1
        try clear hfz8_0 hfz8_1
        try clear p2
        obtain ⟨kq,x132_118,rfl,HA,HJ118,HO_10,HO_11,HO_343000,BK320,BK321,BK342,HB⟩:=hcut;have hl10_118:=(yh HO_10.out).1;rw [hl10_118] at HO_10;(try simp only [hl10_118]);(try simp only [hl10_118] at BK320);(try simp only [hl10_118] at BK321);(try simp only [hl10_118] at BK342);(try simp only [hl10_118] at HO_11);(try simp only [hl10_118] at HO_343000);have hl11_118:=(yh HO_11.out).1;rw [hl11_118] at HO_11;(try simp only [hl11_118]);(try simp only [hl11_118] at BK320);(try simp only [hl11_118] at BK321);(try simp only [hl11_118] at BK342);(try simp only [hl11_118] at HO_10);(try simp only [hl11_118] at HO_343000)
        cases kq with
        | zero => exact absurd HA.out (by simp [F0.j2])
        | succ kj118 =>
         have H:=HA.out;clear HA;simp only [F0.j2] at H
         by_cases c147 : x132_118=true
         ·
          subst c147
          have H1 : (some false)=some r:=by rw [if_pos rfl] at H;exact H
          exact absurd H1 (by rw [hr_];decide)
         replace c147:=yb.mpr c147;subst c147;have H1 : ((Fc.f kj118 t364 1).bind fun t385 => (if t385<0 then (some false) else ((Fi.f kj118 t366 t385).bind fun t386 => (if t386<0 then (some false) else (if t386=t365 then (some true) else (some false))))))=some r:=by rw [if_neg (show ¬ (false=true) by decide)] at H;exact H
         clear H;have H:=H1;clear H1;replace H:=zT.mp H;obtain ⟨t385,A1480,H⟩:=H;replace H : (if t385<0 then (some false) else ((Fi.f kj118 t366 t385).bind fun t386 => (if t386<0 then (some false) else (if t386=t365 then (some true) else (some false)))))=some r:=H;have A148:=zh A1480;clear A1480
         by_cases c149 : t385<0
         ·
          rw [if_pos c149] at H
          have c149b0 : decide (t385<0)=true:=decide_eq_true c149;clear c149;obtain rfl:=zU H
          go_wp2_with (first|((with_reducible refine zJ (f:=18) rfl ?_);refine yj (some 135) rfl rfl Try.func18 (by kernel_rfl) rfl #[.slice Ao120 t364.length co120,.int .i64 1] rfl (by (try simp only [zt,zu,zv]);first|done|rfl|(simp only [zw,zx];rfl)|(simp only [yr,ys,zV,zW];rfl)) ?_;(with_reducible refine (Fc.calls kj118  _ _ t364 1 t385 _ ?side1 ?side2 A148.out).mono ?_);(case side1 => repeat (first|exact (yh HO_10.out).2.2|(with_reducible refine Kd.C_alloc ?_ _)|(with_reducible refine Kd.C_drewN ?_ _)|(with_reducible refine Kd.C_drew ?_)));(case side2 => exact (yh HO_10.out).2.1);rintro e w150 ⟨rfl,hb⟩;refine ⟨_,rfl,?_⟩;replace HO_10:=zh (yg (by (with_reducible repeat (first|apply zm|apply zn|apply zo));exact HO_10.out) hb);replace HO_11:=zh (yg (by (with_reducible repeat (first|apply zm|apply zn|apply zo));exact HO_11.out) hb);replace HO_343000:=zh trivial;replace BK320:=zh (cD BK320.out (by (with_reducible repeat first|apply ze|apply zf|apply zg);exact BK320.out) hb);replace BK321:=zh (cD BK321.out (by (with_reducible repeat first|apply ze|apply zf|apply zg);exact BK321.out) hb);replace BK342:=zh (cD BK342.out (by (with_reducible repeat first|apply ze|apply zf|apply zg);exact BK342.out) hb);replace HB:=zh (zC (by repeat (with_reducible first|exact HB.out|apply za|apply zb|apply zc|refine zd ?_ GE320.out|refine zd ?_ GE321.out|refine zd ?_ GE342.out)) hb);(try clear hb);(try clear hb2);(try clear hk);(try clear hi)))
          go_ret
          exact ⟨by first|rfl|(simp [yt,yu] <;> rfl)|(simp [*,yt,yu] <;> rfl),by repeat (with_reducible first|exact HB.out|apply za|apply zb|apply zc|refine zd ?_ GE320.out|refine zd ?_ GE321.out|refine zd ?_ GE342.out)⟩
         rw [if_neg c149] at H;have c149b0 : decide (t385<0)=false:=decide_eq_false c149;clear c149;replace H:=zT.mp H;obtain ⟨t386,A1510,H⟩:=H;replace H : (if t386<0 then (some false) else (if t386=t365 then (some true) else (some false)))=some r:=H;have A151:=zh A1510;clear A1510
         by_cases c152 : t386<0
         ·
          rw [if_pos c152] at H
          have c152b0 : decide (t386<0)=true:=decide_eq_true c152;clear c152;obtain rfl:=zU H
          go_wp2_with (first|((with_reducible refine zJ (f:=18) rfl ?_);refine yj (some 135) rfl rfl Try.func18 (by kernel_rfl) rfl #[.slice Ao120 t364.length co120,.int .i64 1] rfl (by (try simp only [zt,zu,zv]);first|done|rfl|(simp only [zw,zx];rfl)|(simp only [yr,ys,zV,zW];rfl)) ?_;(with_reducible refine (Fc.calls kj118  _ _ t364 1 t385 _ ?side1 ?side2 A148.out).mono ?_);(case side1 => repeat (first|exact (yh HO_10.out).2.2|(with_reducible refine Kd.C_alloc ?_ _)|(with_reducible refine Kd.C_drewN ?_ _)|(with_reducible refine Kd.C_drew ?_)));(case side2 => exact (yh HO_10.out).2.1);rintro e w153 ⟨rfl,hb⟩;refine ⟨_,rfl,?_⟩;replace HO_10:=zh (yg (by (with_reducible repeat (first|apply zm|apply zn|apply zo));exact HO_10.out) hb);replace HO_11:=zh (yg (by (with_reducible repeat (first|apply zm|apply zn|apply zo));exact HO_11.out) hb);replace HO_343000:=zh trivial;replace BK320:=zh (cD BK320.out (by (with_reducible repeat first|apply ze|apply zf|apply zg);exact BK320.out) hb);replace BK321:=zh (cD BK321.out (by (with_reducible repeat first|apply ze|apply zf|apply zg);exact BK321.out) hb);replace BK342:=zh (cD BK342.out (by (with_reducible repeat first|apply ze|apply zf|apply zg);exact BK342.out) hb);replace HB:=zh (zC (by repeat (with_reducible first|exact HB.out|apply za|apply zb|apply zc|refine zd ?_ GE320.out|refine zd ?_ GE321.out|refine zd ?_ GE342.out)) hb);(try clear hb);(try clear hb2);(try clear hk);(try clear hi))|((with_reducible refine zJ (f:=19) rfl ?_);refine yj (some 140) rfl rfl Try.func19 (by kernel_rfl) rfl #[.slice Ao122 t366.length co122,.int .i64 t385] rfl (by (try simp only [zt,zu,zv]);first|done|rfl|(simp only [zw,zx];rfl)|(simp only [yr,ys,zV,zW];rfl)) ?_;(with_reducible refine (Fi.calls kj118  _ _ t366 t385 t386 _ ?side1 ?side2 A151.out).mono ?_);(case side1 => repeat (first|exact (yh HO_11.out).2.2|(with_reducible refine Kd.C_alloc ?_ _)|(with_reducible refine Kd.C_drewN ?_ _)|(with_reducible refine Kd.C_drew ?_)));(case side2 => exact (yh HO_11.out).2.1);rintro e w' ⟨rfl,⟨nd,rfl⟩⟩;refine ⟨_,rfl,?_⟩))
          go_ret
          exact ⟨by first|rfl|(simp [yt,yu] <;> rfl)|(simp [*,yt,yu] <;> rfl),by repeat (with_reducible first|exact HB.out|apply za|apply zb|apply zc|refine zd ?_ GE320.out|refine zd ?_ GE321.out|refine zd ?_ GE342.out)⟩
         rw [if_neg c152] at H;have c152b0 : decide (t386<0)=false:=decide_eq_false c152;clear c152
         by_cases c154 : t386=t365
         ·
          rw [if_pos c154] at H
          have c154b0 : (t386 == t365)=true:=ya.mpr c154;have c154b1 : (t386 != t365)=false:=zX.mpr c154;clear c154;obtain rfl:=zU H
          go_wp2_with (first|((with_reducible refine zJ (f:=18) rfl ?_);refine yj (some 135) rfl rfl Try.func18 (by kernel_rfl) rfl #[.slice Ao120 t364.length co120,.int .i64 1] rfl (by (try simp only [zt,zu,zv]);first|done|rfl|(simp only [zw,zx];rfl)|(simp only [yr,ys,zV,zW];rfl)) ?_;(with_reducible refine (Fc.calls kj118  _ _ t364 1 t385 _ ?side1 ?side2 A148.out).mono ?_);(case side1 => repeat (first|exact (yh HO_10.out).2.2|(with_reducible refine Kd.C_alloc ?_ _)|(with_reducible refine Kd.C_drewN ?_ _)|(with_reducible refine Kd.C_drew ?_)));(case side2 => exact (yh HO_10.out).2.1);rintro e w155 ⟨rfl,hb⟩;refine ⟨_,rfl,?_⟩;replace HO_10:=zh (yg (by (with_reducible repeat (first|apply zm|apply zn|apply zo));exact HO_10.out) hb);replace HO_11:=zh (yg (by (with_reducible repeat (first|apply zm|apply zn|apply zo));exact HO_11.out) hb);replace HO_343000:=zh trivial;replace BK320:=zh (cD BK320.out (by (with_reducible repeat first|apply ze|apply zf|apply zg);exact BK320.out) hb);replace BK321:=zh (cD BK321.out (by (with_reducible repeat first|apply ze|apply zf|apply zg);exact BK321.out) hb);replace BK342:=zh (cD BK342.out (by (with_reducible repeat first|apply ze|apply zf|apply zg);exact BK342.out) hb);replace HB:=zh (zC (by repeat (with_reducible first|exact HB.out|apply za|apply zb|apply zc|refine zd ?_ GE320.out|refine zd ?_ GE321.out|refine zd ?_ GE342.out)) hb);(try clear hb);(try clear hb2);(try clear hk);(try clear hi))|((with_reducible refine zJ (f:=19) rfl ?_);refine yj (some 140) rfl rfl Try.func19 (by kernel_rfl) rfl #[.slice Ao122 t366.length co122,.int .i64 t385] rfl (by (try simp only [zt,zu,zv]);first|done|rfl|(simp only [zw,zx];rfl)|(simp only [yr,ys,zV,zW];rfl)) ?_;(with_reducible refine (Fi.calls kj118  _ _ t366 t385 t386 _ ?side1 ?side2 A151.out).mono ?_);(case side1 => repeat (first|exact (yh HO_11.out).2.2|(with_reducible refine Kd.C_alloc ?_ _)|(with_reducible refine Kd.C_drewN ?_ _)|(with_reducible refine Kd.C_drew ?_)));(case side2 => exact (yh HO_11.out).2.1);rintro e w' ⟨rfl,⟨nd,rfl⟩⟩;refine ⟨_,rfl,?_⟩))
          go_ret
          exact ⟨by first|rfl|(simp [yt,yu] <;> rfl)|(simp [*,yt,yu] <;> rfl),by repeat (with_reducible first|exact HB.out|apply za|apply zb|apply zc|refine zd ?_ GE320.out|refine zd ?_ GE321.out|refine zd ?_ GE342.out)⟩
         rw [if_neg c154] at H;have c154b0 : (t386 == t365)=false:=zY.mpr c154;have c154b1 : (t386 != t365)=true:=zZ.mpr c154;obtain rfl:=zU H
         go_wp2_with (first|((with_reducible refine zJ (f:=18) rfl ?_);refine yj (some 135) rfl rfl Try.func18 (by kernel_rfl) rfl #[.slice Ao120 t364.length co120,.int .i64 1] rfl (by (try simp only [zt,zu,zv]);first|done|rfl|(simp only [zw,zx];rfl)|(simp only [yr,ys,zV,zW];rfl)) ?_;(with_reducible refine (Fc.calls kj118  _ _ t364 1 t385 _ ?side1 ?side2 A148.out).mono ?_);(case side1 => repeat (first|exact (yh HO_10.out).2.2|(with_reducible refine Kd.C_alloc ?_ _)|(with_reducible refine Kd.C_drewN ?_ _)|(with_reducible refine Kd.C_drew ?_)));(case side2 => exact (yh HO_10.out).2.1);rintro e w156 ⟨rfl,hb⟩;refine ⟨_,rfl,?_⟩;replace HO_10:=zh (yg (by (with_reducible repeat (first|apply zm|apply zn|apply zo));exact HO_10.out) hb);replace HO_11:=zh (yg (by (with_reducible repeat (first|apply zm|apply zn|apply zo));exact HO_11.out) hb);replace HO_343000:=zh trivial;replace BK320:=zh (cD BK320.out (by (with_reducible repeat first|apply ze|apply zf|apply zg);exact BK320.out) hb);replace BK321:=zh (cD BK321.out (by (with_reducible repeat first|apply ze|apply zf|apply zg);exact BK321.out) hb);replace BK342:=zh (cD BK342.out (by (with_reducible repeat first|apply ze|apply zf|apply zg);exact BK342.out) hb);replace HB:=zh (zC (by repeat (with_reducible first|exact HB.out|apply za|apply zb|apply zc|refine zd ?_ GE320.out|refine zd ?_ GE321.out|refine zd ?_ GE342.out)) hb);(try clear hb);(try clear hb2);(try clear hk);(try clear hi))|((with_reducible refine zJ (f:=19) rfl ?_);refine yj (some 140) rfl rfl Try.func19 (by kernel_rfl) rfl #[.slice Ao122 t366.length co122,.int .i64 t385] rfl (by (try simp only [zt,zu,zv]);first|done|rfl|(simp only [zw,zx];rfl)|(simp only [yr,ys,zV,zW];rfl)) ?_;(with_reducible refine (Fi.calls kj118  _ _ t366 t385 t386 _ ?side1 ?side2 A151.out).mono ?_);(case side1 => repeat (first|exact (yh HO_11.out).2.2|(with_reducible refine Kd.C_alloc ?_ _)|(with_reducible refine Kd.C_drewN ?_ _)|(with_reducible refine Kd.C_drew ?_)));(case side2 => exact (yh HO_11.out).2.1);rintro e w' ⟨rfl,⟨nd,rfl⟩⟩;refine ⟨_,rfl,?_⟩))
         go_ret
         exact ⟨by first|rfl|(simp [yt,yu] <;> rfl)|(simp [*,yt,yu] <;> rfl),by repeat (with_reducible first|exact HB.out|apply za|apply zb|apply zc|refine zd ?_ GE320.out|refine zd ?_ GE321.out|refine zd ?_ GE342.out)⟩
      rw [if_neg c115] at H;have c115b0 : (t368 == t365)=false:=zY.mpr c115;have c115b1 : (t368 != t365)=true:=zZ.mpr c115;obtain rfl:=zU H;obtain ⟨Ao157,co157,eo157⟩:=yk HO_10.out;subst eo157
      go_wp2_with (first|((with_reducible refine zJ (f:=16) rfl ?_);refine yj (some 92) rfl rfl Try.func16 (by kernel_rfl) rfl #[.slice Ao157 t346.length co157,.int .i64 1] rfl (by (try simp only [zt,zu,zv]);first|done|rfl|(simp only [zw,zx];rfl)|(simp only [yr,ys,zV,zW];rfl)) ?_;(with_reducible refine (Fk.calls kj70  (fun k_ => some k_=(.slice Ao157 t346.length co157 : Value).ownBlock) (.slice Ao157 t346.length co157) t346 1 t363 t364 w _ ?side1 ?side2 A99.out).mono ?_);(case side1 => repeat (with_reducible first|exact HB.out|apply za|apply zb|apply zc|refine zd ?_ GE320.out|refine zd ?_ GE321.out|refine zd ?_ GE342.out));(case side2 => exact Kd.R_tight rfl HO_10.out);rintro e w158 ⟨rfl,hy0,hb,hkp⟩;refine ⟨_,rfl,?_⟩;replace HO_6:=zh (zM (ok':=fun k_ => some k_≠(.slice Ao157 t346.length co157 : Value).ownBlock) (Kd.R_keptB (HO_6.out) hkp (fun k_ hk_ hs_ => (hk_) hs_)) (fun k_ hk_ => hk_.1));replace HO_7:=zh (zM (ok':=fun k_ => some k_≠(v350 : Value).ownBlock) (Kd.R_keptB ((Kd.R_apart' HO_7.out (Kd.R_typed HO_10.out) (by decide))) hkp (fun k_ hk_ hs_ => (hk_.2) hs_)) (fun k_ hk_ => hk_.1.1));replace HO_11:=zh (zM (ok':=fun k_ => some k_≠(v335 : Value).ownBlock) (Kd.R_keptB ((Kd.R_apart' HO_11.out (Kd.R_typed HO_10.out) (by decide))) hkp (fun k_ hk_ hs_ => (hk_.2) hs_)) (fun k_ hk_ => hk_.1.1));replace HO_343000:=zh trivial;replace BK320:=zh (blk_kept (by (with_reducible repeat first|apply ze|apply zf|apply zg);exact BK320.out) hkp (fun hs_ => (fun e_ => (Kd.R_ne HO_10.out BK320.out (by decide)) e_) hs_));replace BK321:=zh (blk_kept (by (with_reducible repeat first|apply ze|apply zf|apply zg);exact BK321.out) hkp (fun hs_ => (fun e_ => (Kd.R_ne HO_10.out BK321.out (by decide)) e_) hs_));replace BK342:=zh (blk_kept (by (with_reducible repeat first|apply ze|apply zf|apply zg);exact BK342.out) hkp (fun hs_ => (fun e_ => (Kd.R_ne HO_10.out BK342.out (by decide)) e_) hs_));replace HO_10:=zh (Kd.R_reok rfl hy0 (fun k_ e_ => HO_10.out.1 k_ e_));replace HB:=zh (hb);(try clear hb);(try clear hkp);(try clear hy0);obtain ⟨Ao159,co159,eo159⟩:=yk HO_11.out;subst eo159)|((with_reducible refine zJ (f:=17) rfl ?_);refine yj (some 95) rfl rfl Try.func17 (by kernel_rfl) rfl #[.slice Ao159 t349.length co159,.int .i64 t363] rfl (by (try simp only [zt,zu,zv]);first|done|rfl|(simp only [zw,zx];rfl)|(simp only [yr,ys,zV,zW];rfl)) ?_;(with_reducible refine (Fo.calls kj70  (fun k_ => some k_=(.slice Ao159 t349.length co159 : Value).ownBlock) (.slice Ao159 t349.length co159) t349 t363 t365 t366 w _ ?side1 ?side2 A100.out).mono ?_);(case side1 => repeat (with_reducible first|exact HB.out|apply za|apply zb|apply zc|refine zd ?_ GE320.out|refine zd ?_ GE321.out|refine zd ?_ GE342.out));(case side2 => exact Kd.R_tight rfl HO_11.out);rintro e w160 ⟨rfl,hy0,hb,hkp⟩;refine ⟨_,rfl,?_⟩;replace HO_6:=zh (zM (ok':=fun k_ => some k_≠(.slice Ao157 t346.length co157 : Value).ownBlock) (Kd.R_keptB ((Kd.R_apart' HO_6.out (Kd.R_typed HO_11.out) (by decide))) hkp (fun k_ hk_ hs_ => (hk_.2) hs_)) (fun k_ hk_ => hk_.1.1));replace HO_7:=zh (zM (ok':=fun k_ => some k_≠(.slice Ao159 t349.length co159 : Value).ownBlock) (Kd.R_keptB (HO_7.out) hkp (fun k_ hk_ hs_ => (hk_) hs_)) (fun k_ hk_ => hk_.1));replace HO_10:=zh (zM (ok':=fun k_ => some k_≠(v332 : Value).ownBlock) (Kd.R_keptB ((Kd.R_apart' HO_10.out (Kd.R_typed HO_11.out) (by decide))) hkp (fun k_ hk_ hs_ => (hk_.2) hs_)) (fun k_ hk_ => hk_.1.1));replace HO_343000:=zh trivial;replace BK320:=zh (blk_kept (by (with_reducible repeat first|apply ze|apply zf|apply zg);exact BK320.out) hkp (fun hs_ => (fun e_ => (Kd.R_ne HO_11.out BK320.out (by decide)) e_) hs_));replace BK321:=zh (blk_kept (by (with_reducible repeat first|apply ze|apply zf|apply zg);exact BK321.out) hkp (fun hs_ => (fun e_ => (Kd.R_ne HO_11.out BK321.out (by decide)) e_) hs_));replace BK342:=zh (blk_kept (by (with_reducible repeat first|apply ze|apply zf|apply zg);exact BK342.out) hkp (fun hs_ => (fun e_ => (Kd.R_ne HO_11.out BK342.out (by decide)) e_) hs_));replace HO_11:=zh (Kd.R_reok rfl hy0 (fun k_ e_ => HO_11.out.1 k_ e_));replace HB:=zh (hb);(try clear hb);(try clear hkp);(try clear hy0))|((with_reducible refine zJ (f:=18) rfl ?_);refine yj (some 98) rfl rfl Try.func18 (by kernel_rfl) rfl #[.slice Ao157 t364.length co157,.int .i64 1] rfl (by (try simp only [zt,zu,zv]);first|done|(rw [show t364.length=t346.length from (yh HO_10.out).1.symm] <;> rfl)|rfl|(simp only [zw,zx];rfl)|(simp only [yr,ys,zV,zW];rfl)) ?_;(with_reducible refine (Fc.calls kj70  _ _ t364 1 t367 _ ?side1 ?side2 A101.out).mono ?_);(case side1 => repeat (first|exact (yh HO_10.out).2.2|(with_reducible refine Kd.C_alloc ?_ _)|(with_reducible refine Kd.C_drewN ?_ _)|(with_reducible refine Kd.C_drew ?_)));(case side2 => rw [show t364.length=t346.length from (yh HO_10.out).1.symm];exact (yh HO_10.out).2.1);rintro e w161 ⟨rfl,hb⟩;refine ⟨_,rfl,?_⟩;replace HO_6:=zh (yg (by (with_reducible repeat (first|apply zm|apply zn|apply zo));exact HO_6.out) hb);replace HO_7:=zh (yg (by (with_reducible repeat (first|apply zm|apply zn|apply zo));exact HO_7.out) hb);replace HO_10:=zh (yg (by (with_reducible repeat (first|apply zm|apply zn|apply zo));exact HO_10.out) hb);replace HO_11:=zh (yg (by (with_reducible repeat (first|apply zm|apply zn|apply zo));exact HO_11.out) hb);replace HO_343000:=zh trivial;replace BK320:=zh (cD BK320.out (by (with_reducible repeat first|apply ze|apply zf|apply zg);exact BK320.out) hb);replace BK321:=zh (cD BK321.out (by (with_reducible repeat first|apply ze|apply zf|apply zg);exact BK321.out) hb);replace BK342:=zh (cD BK342.out (by (with_reducible repeat first|apply ze|apply zf|apply zg);exact BK342.out) hb);replace HB:=zh (zC (by repeat (with_reducible first|exact HB.out|apply za|apply zb|apply zc|refine zd ?_ GE320.out|refine zd ?_ GE321.out|refine zd ?_ GE342.out)) hb);(try clear hb);(try clear hb2);(try clear hk);(try clear hi))|((with_reducible refine zJ (f:=19) rfl ?_);refine yj (some 103) rfl rfl Try.func19 (by kernel_rfl) rfl #[.slice Ao159 t366.length co159,.int .i64 t367] rfl (by (try simp only [zt,zu,zv]);first|done|(rw [show t366.length=t349.length from (yh HO_11.out).1.symm] <;> rfl)|rfl|(simp only [zw,zx];rfl)|(simp only [yr,ys,zV,zW];rfl)) ?_;(with_reducible refine (Fi.calls kj70  _ _ t366 t367 t368 _ ?side1 ?side2 A108.out).mono ?_);(case side1 => repeat (first|exact (yh HO_11.out).2.2|(with_reducible refine Kd.C_alloc ?_ _)|(with_reducible refine Kd.C_drewN ?_ _)|(with_reducible refine Kd.C_drew ?_)));(case side2 => rw [show t366.length=t349.length from (yh HO_11.out).1.symm];exact (yh HO_11.out).2.1);rintro e w' ⟨rfl,⟨nd,rfl⟩⟩;refine ⟨_,rfl,?_⟩))
      go_ret
      exact ⟨by first|rfl|(simp [yt,yu] <;> rfl)|(simp [*,yt,yu] <;> rfl),by repeat (with_reducible first|exact HB.out|apply za|apply zb|apply zc|refine zd ?_ GE320.out|refine zd ?_ GE321.out|refine zd ?_ GE342.out)⟩
   replace c69:=yb.mpr c69;subst c69;have H1 : (some false)=some r:=by rw [if_neg (show ¬ (false=true) by decide)] at H;exact H
   exact absurd H1 (by rw [hr_];decide)

end Go.Proofs.Ytamikhmpfmgofaa.Q
end
section
namespace Go.Proofs.YtamikhmpfmgofaaW.PrintOpen
open Go.RowKit Go.ChangeShapes Go.WideShapes Go.ChangeAt Go.Proofs.YtamikhmpfmgofaaW.PrintWords
def Opens {α : Type} (P : Program) (d : Kd α) (t : TypeId) (good : α→Prop) : Prop :=
 ∀ (H : Type) (enc : TypeId×Value→H) (w : World) (base : Nat) (spare : Nat→Bool) (held : Bool) (fuel : Nat) (cs : List Value) (x : DataW H×List MemPlace),
  DataW.trod enc P w base spare held fuel t cs=some x → ∃ a,d.K w a cs∧good a
variable {P : Program}
theorem opens_int {t : TypeId} {k : IntKind} (ht : P.underlying t=some (.int k)) : Opens P (Kd.int k) t (fun n => (Lit.int k n).wf=true):=by
 intro H enc w base spare held fuel cs x h;obtain ⟨n,hcs,_,hw⟩:=DataW.trod_int ht h;exact ⟨n,hcs,hw⟩
theorem opens_bool {t : TypeId} (ht : P.underlying t=some .bool) : Opens P Kd.bool t (fun _ => True):=by
 intro H enc w base spare held fuel cs x h;obtain ⟨b,hcs,_⟩:=DataW.trod_bool ht h;exact ⟨b,hcs,trivial⟩
theorem opens_string {t : TypeId} (ht : P.underlying t=some .string) : Opens P Kd.string t (fun s => s.size≤9223372036854775807):=by
 intro H enc w base spare held fuel cs x h;obtain ⟨s,hcs,_,hs⟩:=DataW.trod_string ht h;exact ⟨s,hcs,by unfold maxLen at hs;exact hs⟩
theorem opens_slice {α : Type} {t e : TypeId} {d : Kd α} {g : α→Prop} (ht : P.underlying t=some (.slice e)) (hc : P.cellsOf e=d.sz) (he : Opens P d e g) :
  Opens P (Kd.slice e d) t (fun l => l.length≤9223372036854775807 ∧ ∀ x ∈ l,g x):=by
 intro H enc w base spare held fuel cs x h;rcases Deep.open_slice ht h with ⟨rfl,_⟩|⟨a,len,cap,m,n,D,Pl,rfl,_,hl,hm,hmm,_,hx⟩
 ·
  exact ⟨[],⟨none,0,rfl,Nat.le_refl _,rfl,by simp,fun h0 => absurd h0 (by simp)⟩,by simp,by simp⟩
 have hlm : len≤m:=by rw [hmm];split <;> omega
 have hall : ∀ i : Fin len,∃ v : α×List Value,w.cells? base (a.add (i.1 * P.cellsOf e)) (P.cellsOf e)=some v.2∧d.K w v.1 v.2∧g v.1:=fun i => by
  obtain ⟨cs',h1,h2⟩:=hx i.1 (by have:=i.2;omega);obtain ⟨a',hk,hg⟩:=he H enc w base spare held n cs' _ h2;exact ⟨(a',cs'),h1,hk,hg⟩
 obtain ⟨V,hV⟩:=Classical.axiomOfChoice hall;have hmax : len≤9223372036854775807:=by unfold maxLen at hm;omega
 have hlen : (List.ofFn fun i => (V i).1).length=len:=List.length_ofFn;refine ⟨List.ofFn fun i => (V i).1,⟨some a,cap,by rw [hlen],by rw [hlen];exact hl,rfl,by rw [hlen];exact hmax,fun _ => ⟨a,rfl,?_⟩⟩,by rw [hlen];exact hmax,?_⟩
 ·
  intro j p hj
  have hjl : j<len:=by
   have:=(List.getElem?_eq_some_iff.1 hj).1
   omega
  rw [List.getElem?_ofFn,dif_pos hjl] at hj;obtain rfl:=Option.some.inj hj;obtain ⟨h1,h2,_⟩:=hV ⟨j,hjl⟩;obtain ⟨_,hlen2,hcell⟩:=World.cells?_some h1;refine ⟨(V ⟨j,hjl⟩).2,by rw [← hc];exact hlen2,h2,fun q u hu => ?_⟩
  have hq : q<P.cellsOf e:=by
   have:=(List.getElem?_eq_some_iff.1 hu).1
   omega
  have h3:=hcell q hq;rw [Deep.add_add,hu,hc] at h3;exact h3
 intro x hx;obtain ⟨i,rfl⟩:=List.mem_ofFn.1 hx;exact (hV i).2.2
def OpensF {α : Type} (P : Program) (d : Kd α) (fs : List Field) (off : Nat) (good : α→Prop) : Prop :=
 ∀ (H : Type) (enc : TypeId×Value→H) (w : World) (base : Nat) (spare : Nat→Bool) (held : Bool) (fuel : Nat) (cs : List Value),off + d.sz≤cs.length →
  (∀ f ∈ fs,∃ x,DataW.trod enc P w base spare held fuel f.type ((cs.drop f.offset).take (P.cellsOf f.type))=some x) → ∃ a,d.K w a ((cs.drop off).take d.sz)∧good a
theorem opensF_one {α : Type} {d : Kd α} {f : Field} {off : Nat} {g : α→Prop} (ho : f.offset=off) (hc : P.cellsOf f.type=d.sz) (h : Opens P d f.type g) : OpensF P d [f] off g:=by
 intro H enc w base spare held fuel cs _ hf;obtain ⟨x,hx⟩:=hf f (by simp);obtain ⟨a,hk,hg⟩:=h H enc w base spare held fuel _ x hx;rw [ho,hc] at hk;exact ⟨a,hk,hg⟩
theorem opensF_cons {α β : Type} {d : Kd α} {d' : Kd β} {f : Field} {fs : List Field} {off : Nat} {g : α→Prop} {g' : β→Prop} (ho : f.offset=off) (hc : P.cellsOf f.type=d.sz) (h : Opens P d f.type g) (h' : OpensF P d' fs (off + d.sz) g') :
  OpensF P (Kd.pair d d') (f :: fs) off (fun x => g x.1∧g' x.2):=by
 intro H enc w base spare held fuel cs hl hf;obtain ⟨x,hx⟩:=hf f (by simp);obtain ⟨a,hk,hg⟩:=h H enc w base spare held fuel _ x hx;have hl2 : off + (d.sz + d'.sz)≤cs.length:=hl;obtain ⟨b,hk',hg'⟩:=h' H enc w base spare held fuel cs (by omega) (fun f' hf' => hf f' (by simp [hf']));rw [ho,hc] at hk;refine ⟨(a,b),⟨_,_,?_,hk,hk'⟩,hg,hg'⟩;show (cs.drop off).take (d.sz + d'.sz)=_;rw [List.take_add,List.drop_drop]
theorem opens_struct {α β : Type} {t : TypeId} {fs : Array Field} {d : Kd α} {g : α→Prop} {f : β→α} (f' : α→β) (hf : ∀ a,f (f' a)=a) (ht : P.underlying t=some (.struct fs)) (hc : P.cellsOf t=d.sz) (h : OpensF P d fs.toList 0 g) :
  Opens P (Kd.iso d f) t (fun b => g (f b)):=by
 intro H enc w base spare held fuel cs x hx;obtain ⟨xs,n,_,_,hl,hlen,hxs⟩:=DataW.trod_struct ht hx
 obtain ⟨a,hk,hg⟩:=h H enc w base spare held n cs (by omega) (fun y hy => by
  obtain ⟨i,hi⟩:=List.mem_iff_getElem?.1 hy;have:=hxs i y (by simpa using hi)
  have hlt : i<xs.length:=by
   have:=(List.getElem?_eq_some_iff.1 hi).1;rw [hlen]
   simpa using this
  rw [List.getElem?_eq_getElem hlt] at this
  exact ⟨_,this⟩)
 rw [List.drop_zero,show d.sz=cs.length by omega,List.take_length] at hk;exact ⟨f' a,by show d.K w (f (f' a)) cs;rw [hf];exact hk,by show g (f (f' a));rw [hf];exact hg⟩
theorem arg_struct {α : Type} {d : Kd α} {t : TypeId} {fs : Array Field} {g : α→Prop} {H : Type} {enc : TypeId×Value→H} {w : World} {base b0 : Nat} {spare : Nat→Bool} {held : Bool} {r : Reach} {v : Value} {dd : DataW H} {p : List MemPlace}
  (ht : P.underlying t=some (.struct fs)) (h : Opens P d t g) (hv : Value.okWide P w r b0 t v) (hd : DataW.Trod enc P w base spare held t v dd p) : ∃ (a : α) (cs : List Value),v = .agg ⟨cs⟩∧d.K w a cs∧g a:=by
 obtain ⟨cs,rfl,_⟩:=okWide_struct ht hv;obtain ⟨fuel,hf⟩:=hd;obtain ⟨a,hk,hg⟩:=h H enc w base spare held fuel _ _ hf;exact ⟨a,cs.toList,rfl,hk,hg⟩
end Go.Proofs.YtamikhmpfmgofaaW.PrintOpen
end
section
namespace Go.Proofs.Ytamikhmpfmgofaa.Q
open Go.RowKit Go.Proofs.YtamikhmpfmgofaaW.PrintWords Go.Proofs.YtamikhmpfmgofaaW.PrintLast Go.Proofs.YtamikhmpfmgofaaW.PrintMore Go.Proofs.YtamikhmpfmgofaaW.PrintOpen
def good47 (x_ : S47) : Prop:=(x_.f0.size≤9223372036854775807)∧(((Lit.int .i64 x_.f1).wf=true))
theorem opens47 : Opens Try.prog k47 47 good47 :=
 opens_struct (f:=(fun x : S47 => (x.f0,x.f1))) (fun ⟨x0,x1⟩ => ⟨x0,x1⟩) (fun _ => rfl) Try.underlying47 (by kernel_rfl) (opensF_cons rfl (by kernel_rfl) (opens_string Try.underlying9) (opensF_one rfl (by kernel_rfl) (opens_int Try.underlying3)))
def good79 (x_ : S79) : Prop:=((Lit.int .i64 x_.f0).wf=true)∧(((x_.f1.length≤9223372036854775807 ∧ ∀ y0_ ∈ x_.f1,good47 y0_)))
theorem opens79 : Opens Try.prog k79 79 good79 :=
 opens_struct (f:=(fun x : S79 => (x.f0,x.f1))) (fun ⟨x0,x1⟩ => ⟨x0,x1⟩) (fun _ => rfl) Try.underlying79 (by kernel_rfl) (opensF_cons rfl (by kernel_rfl) (opens_int Try.underlying3) (opensF_one rfl (by kernel_rfl) (opens_slice Try.underlying77 (by kernel_rfl) opens47)))
def good24 (x_ : S24) : Prop:=((x_.f0.length≤9223372036854775807 ∧ ∀ y0_ ∈ x_.f0,good79 y0_))∧(((Lit.int .i64 x_.f1).wf=true))
theorem opens24 : Opens Try.prog k24 24 good24 :=
 opens_struct (f:=(fun x : S24 => (x.f0,x.f1))) (fun ⟨x0,x1⟩ => ⟨x0,x1⟩) (fun _ => rfl) Try.underlying24 (by kernel_rfl) (opensF_cons rfl (by kernel_rfl) (opens_slice Try.underlying22 (by kernel_rfl) opens79) (opensF_one rfl (by kernel_rfl) (opens_int Try.underlying3)))
def good26 (x_ : S26) : Prop:=(x_.f0.size≤9223372036854775807)∧((x_.f1.size≤9223372036854775807)∧((True)))
theorem opens26 : Opens Try.prog k26 26 good26 :=
 opens_struct (f:=(fun x : S26 => (x.f0,x.f1,x.f2))) (fun ⟨x0,x1,x2⟩ => ⟨x0,x1,x2⟩) (fun _ => rfl) Try.underlying26 (by kernel_rfl) (opensF_cons rfl (by kernel_rfl) (opens_string Try.underlying9) (opensF_cons rfl (by kernel_rfl) (opens_string Try.underlying9) (opensF_one rfl (by kernel_rfl) (opens_bool Try.underlying4))))
end Go.Proofs.Ytamikhmpfmgofaa.Q
end
section
namespace Go.Proofs.Ytamikhmpfmgofaa.Q
def F0.Pure : Prop:=∀ (x0 : S24) (x1 : S26),(good24 x0)→(good26 x1) → ∃ k,F0.f k x0.f0 x0.f1 x1.f0 x1.f1 x1.f2=some true
end Go.Proofs.Ytamikhmpfmgofaa.Q
end
section
namespace Go.Proofs.YtamikhmpfmgofaaW.Pl
open Go Go.RowKit Go.Proofs.YtamikhmpfmgofaaW.PrintWords Go.Proofs.YtamikhmpfmgofaaW.PrintMore
theorem w64 {i : Int} (h0 : -9223372036854775808≤i) (h1 : i≤9223372036854775807) : wrap64 i=i:=by unfold wrap64;omega
theorem fuel {k d : Nat} (h : d<k) : ∃ m,k=m + 1∧d≤m:=⟨k - 1,by omega,by omega⟩
theorem rd_at (xs : List Int) (i : Nat) (h : i<xs.length) : rd xs (i : Int)=xs[i]:=by
 unfold rd;simp [List.getD,h]
theorem getD_at {α : Type} (d : α) (xs : List α) (i : Nat) (h : i<xs.length) : xs.getD (i : Int).toNat d=xs[i]:=by
 simp [List.getD,h]
theorem drop_at {α : Type} (xs : List α) (i : Nat) (h : i<xs.length) : xs.drop i=xs[i] :: xs.drop (i + 1):=List.drop_eq_getElem_cons h
theorem ba_toList (a : ByteArray) : a.toList=a.data.toList:=ByteArray.toList_eq a
def all2 {α β : Type} (e : α→β→Bool) : List α→List β→Bool
 | [],_ => true
 | _ :: _,[] => true
 | x :: xs,y :: ys => e x y && all2 e xs ys
def first {α : Type} (p : α→Bool) : List α→Nat→Int
 | [],_ => -1
 | x :: xs,i => if p x=true then i else first p xs (i + 1)
theorem first_any {α : Type} (p : α→Bool) : ∀ (xs : List α) (i : Nat),decide (first p xs i ≥ 0)=xs.any p
 | [],i => rfl
 | x :: xs,i => by
  by_cases h : p x=true
  ·
   simp [first,h]
  simp only [first,if_neg h,List.any_cons,first_any p xs (i + 1)];simp [h]
def total {α : Type} (s : α→Nat) : List α→Nat
 | [] => 0
 | x :: xs => s x + total s xs
theorem total_le {α : Type} (s : α→Nat) : ∀ (xs : List α) (x : α),x ∈ xs→s x≤total s xs
 | _ :: xs,x,h => by
  rcases List.mem_cons.1 h with rfl|h
  ·
   simp [total]
  have:=total_le s xs x h;simp [total];omega
def less {α : Type} (s : α→Nat) : List α→Int→Int
 | [],l => l
 | x :: xs,l => if l - s x<0 then -1 else less s xs (l - s x)
theorem less_is {α : Type} (s : α→Nat) : ∀ (xs : List α) (l : Int),0≤l→less s xs l=if l<total s xs then -1 else l - total s xs
 | [],l,h => by simp [less,total];omega
 | x :: xs,l,h => by
  have ht : ((total s (x :: xs) : Nat) : Int)=s x + total s xs:=by simp [total]
  rw [ht];simp only [less]
  by_cases h1 : l - s x<0
  ·
   rw [if_pos h1,if_pos (by omega)]
  rw [if_neg h1,less_is s xs _ (by omega)]
  by_cases h2 : l<s x + total s xs
  ·
   rw [if_pos (by omega),if_pos (by omega)]
  rw [if_neg (by omega),if_neg (by omega)];omega
def Eve {α : Type} (g : Nat→Option α) (v : α) : Prop:=∃ K,∀ k,K≤k→g k=some v
theorem Eve.one {α : Type} {v : α} : Eve (fun _ => some v) v:=⟨0,fun _ _ => rfl⟩
theorem Eve.all {α : Type} {g : Nat→Option α} {v : α} (h : ∀ k,g k=some v) : Eve g v:=⟨0,fun k _ => h k⟩
theorem Eve.of {α : Type} {g : Nat→Option α} {v : α} {n : Nat} (h : ∀ k,n<k→g k=some v) : Eve g v:=⟨n + 1,fun k hk => h k (by omega)⟩
theorem Eve.succ {α : Type} {g : Nat→Option α} {v : α} (h : Eve (fun k => g (k + 1)) v) : Eve g v:=by
 obtain ⟨K,h⟩:=h;refine ⟨K + 1,fun k hk => ?_⟩;obtain ⟨k,rfl⟩ : ∃ m,k=m + 1:=⟨k - 1,by omega⟩;exact h k (by omega)
theorem Eve.bind {α β : Type} {g : Nat→Option α} {f : Nat→α→Option β} {v : α} {u : β} (h : Eve g v) (h2 : Eve (fun k => f k v) u) : Eve (fun k => (g k).bind (f k)) u:=by
 obtain ⟨K,h⟩:=h;obtain ⟨K2,h2⟩:=h2;refine ⟨max K K2,fun k hk => ?_⟩;show (g k).bind (f k)=some u;rw [h k (by omega),Option.bind_some];exact h2 k (by omega)
theorem Eve.ite {α : Type} {c : Prop} [Decidable c] {a b : Nat→Option α} {v : α} (h1 : c→Eve a v) (h2 : ¬ c→Eve b v) : Eve (fun k => if c then a k else b k) v:=by
 by_cases h : c
 ·
  simp only [if_pos h];exact h1 h
 simp only [if_neg h];exact h2 h
theorem Eve.get {α : Type} {g : Nat→Option α} {v : α} (h : Eve g v) : ∃ k,g k=some v:=by
 obtain ⟨K,h⟩:=h;exact ⟨K,h K (by omega)⟩
theorem Eve.eq {α : Type} {g : Nat→Option α} {v u : α} (h : Eve g v) (e : v=u) : Eve g u:=e ▸ h
theorem Eve.congr {α : Type} {g f : Nat→Option α} {v : α} (h : Eve g v) (e : ∀ k,f k=g k) : Eve f v:=by
 obtain ⟨K,h⟩:=h;exact ⟨K,fun k hk => by rw [e,h k hk]⟩
theorem ev_loop {σ α β : Type} (xs : List α) (g : Nat→σ→Int→Option β) (R : Nat→σ→List α→β) (I : Nat→σ→Prop)
  (hend : ∀ s,I xs.length s→Eve (fun k => g (k + 1) s (xs.length : Int)) (R xs.length s []))
  (hstep : ∀ (i : Nat) (h : i<xs.length) (s : σ),I i s→(∀ s',I (i + 1) s' → Eve (fun k => g k s' ((i + 1 : Nat) : Int)) (R (i + 1) s' (xs.drop (i + 1)))) →
   Eve (fun k => g (k + 1) s (i : Int)) (R i s (xs[i] :: xs.drop (i + 1)))) :
  ∀ (d i : Nat) (s : σ),i + d=xs.length→I i s→Eve (fun k => g k s (i : Int)) (R i s (xs.drop i)):=by
 intro d
 induction d with
 | zero =>
  intro i s hi hI;obtain rfl : i=xs.length:=by omega
  rw [List.drop_length];exact Eve.succ (hend s hI)
 | succ d ih =>
  intro i s hi hI;have hlt : i<xs.length:=by omega
  rw [drop_at xs i hlt];exact Eve.succ (hstep i hlt s hI (fun s' h' => ih (i + 1) s' (by omega) h'))
theorem ev_loop0 {σ α β : Type} (xs : List α) (g : Nat→σ→Int→Option β) (R : Nat→σ→List α→β) (I : Nat→σ→Prop)
  (hend : ∀ s,I xs.length s→Eve (fun k => g (k + 1) s (xs.length : Int)) (R xs.length s []))
  (hstep : ∀ (i : Nat) (h : i<xs.length) (s : σ),I i s→(∀ s',I (i + 1) s' → Eve (fun k => g k s' ((i + 1 : Nat) : Int)) (R (i + 1) s' (xs.drop (i + 1)))) →
   Eve (fun k => g (k + 1) s (i : Int)) (R i s (xs[i] :: xs.drop (i + 1)))) (s : σ) (h0 : I 0 s) : Eve (fun k => g k s 0) (R 0 s xs):=by
 have:=ev_loop xs g R I hend hstep xs.length 0 s (by omega) h0
 simpa using this
theorem ev_map {α β : Type} (xs : List α) (g : Nat→List β→Int→Option (List β)) (c : α→β) (z : β)
  (hend : ∀ ys,ys.length=xs.length→Eve (fun k => g (k + 1) ys (xs.length : Int)) ys)
  (hstep : ∀ (i : Nat) (h : i<xs.length) (ys : List β) (v : List β),ys.length=xs.length→Eve (fun k => g k (ys.set i (c xs[i])) ((i + 1 : Nat) : Int)) v→Eve (fun k => g (k + 1) ys (i : Int)) v) :
  Eve (fun k => g k (List.replicate xs.length z) 0) (xs.map c):=by
 have:=ev_loop0 xs g (fun i ys rest => ys.take i ++ rest.map c) (fun _ ys => ys.length=xs.length) (fun ys hy => by
  rw [List.take_of_length_le (by omega)];simpa using hend ys hy) (fun i hi ys hy ih => by
  refine hstep i hi ys _ hy ((ih _ (by simp [hy])).eq ?_);show (ys.set i (c xs[i])).take (i + 1) ++ (xs.drop (i + 1)).map c=ys.take i ++ (xs[i] :: xs.drop (i + 1)).map c;rw [List.take_succ_eq_append_getElem (by simp;omega),List.getElem_set_self,List.take_set_of_le (Nat.le_refl _),List.map_cons,List.append_assoc]
  rfl) (List.replicate xs.length z) (by simp)
 simpa using this
theorem ev_all {α : Type} (xs : List α) (g : Nat→Int→Option Bool) (q : α→Bool)
  (hend : Eve (fun k => g (k + 1) (xs.length : Int)) true)
  (hstep : ∀ (i : Nat) (h : i<xs.length) (v : Bool),Eve (fun k => g k ((i + 1 : Nat) : Int)) v→Eve (fun k => g (k + 1) (i : Int)) (q xs[i] && v)) : Eve (fun k => g k 0) (xs.all q) :=
 ev_loop0 xs (fun k (_ : Unit) i => g k i) (fun _ _ r => r.all q) (fun _ _ => True) (fun _ _ => hend) (fun i hi s _ ih => by
  rw [List.all_cons];exact hstep i hi _ (ih () trivial)) () trivial
theorem ev_less {α : Type} (xs : List α) (g : Nat→Int→Int→Option Int) (s : α→Nat)
  (hend : ∀ l,Eve (fun k => g (k + 1) l (xs.length : Int)) l)
  (hstep : ∀ (i : Nat) (h : i<xs.length) (l v : Int),0≤l→l≤1048576→(0≤l - s xs[i]→Eve (fun k => g k (l - s xs[i]) ((i + 1 : Nat) : Int)) v)→Eve (fun k => g (k + 1) l (i : Int)) (if l - s xs[i]<0 then -1 else v))
  {l : Int} (h0 : 0≤l) (h1 : l≤1048576) : Eve (fun k => g k l 0) (if l - total s xs<0 then -1 else l - total s xs):=by
 have:=ev_loop0 xs g (fun _ l r => less s r l) (fun _ l => 0≤l∧l≤1048576) (fun l _ => hend l) (fun i hi l hI ih => by
  refine (hstep i hi l _ hI.1 hI.2 (fun h => ih (l - s xs[i]) ⟨h,by omega⟩)).eq ?_
  rfl) l ⟨h0,h1⟩
 rw [less_is s xs l h0] at this
 by_cases h : l<total s xs
 ·
  rw [if_pos h] at this;rw [if_pos (by omega)];exact this
 rw [if_neg h] at this;rw [if_neg (by omega)];exact this
end Go.Proofs.YtamikhmpfmgofaaW.Pl
end
section
namespace Go.Proofs.Ytamikhmpfmgofaa.Pure
open Go.RowKit Go.Proofs.Ytamikhmpfmgofaa.Q Go.Proofs.YtamikhmpfmgofaaW.PrintWords Go.Proofs.YtamikhmpfmgofaaW.PrintLast Go.Proofs.YtamikhmpfmgofaaW.Pl
abbrev LEnt:=S47
abbrev IEnt:=S51
abbrev LPag:=S79
abbrev IPag:=S67
def ie (e : LEnt) : IEnt:=⟨e.f0,e.f1⟩
def ip (p : LPag) : IPag:=⟨p.f0,p.f1.map ie⟩
theorem wi {i : Nat} (h : i≤9223372036854775806) : wrap64 ((i : Int) + 1)=((i + 1 : Nat) : Int):=w64 (by omega) (by omega)
theorem rdLE (l : List LEnt) (i : Nat) (h : i<l.length) : rd_T47 l (i : Int)=l[i]:=getD_at _ l i h
theorem rdIE (l : List IEnt) (i : Nat) (h : i<l.length) : rd_T51 l (i : Int)=l[i]:=getD_at _ l i h
theorem rdLP (l : List LPag) (i : Nat) (h : i<l.length) : rd_T79 l (i : Int)=l[i]:=getD_at _ l i h
theorem rdIP (l : List IPag) (i : Nat) (h : i<l.length) : rd_T67 l (i : Int)=l[i]:=getD_at _ l i h
theorem szEntry_tells (e : LEnt) (h : e.f0.size≤9223372036854775807) {left : Int} (h0 : 0≤left) (h1 : left≤1048576) :
  Fm.f e.f0 e.f1 left=some (if left - e.f0.size<0 then -1 else left - e.f0.size):=by
 unfold Fm.f;rw [w64 (by omega) (by omega)]
 split <;> rfl
def szES (l : List LEnt) : Nat:=l.length + total (fun e => e.f0.size) l
theorem szEntryS_tells (l : List LEnt) (hl : l.length≤9223372036854775807) (hs : ∀ x ∈ l,x.f0.size≤9223372036854775807) {left : Int} (h0 : 0≤left) (h1 : left≤1048576) :
  Eve (fun k => Fu.f k l left) (if left - szES l<0 then -1 else left - szES l):=by
 simp only [Fu.f];rw [w64 (by omega) (by omega)];refine Eve.ite (fun h => Eve.one.eq ?_) (fun h => ?_)
 ·
  rw [if_pos (by simp [szES];omega)]
 refine (ev_less l (fun k l' i => Fu.l0 k l l' i) (fun e => e.f0.size) (fun l' => ?_) (fun i hi l' v a b ih => ?_) (by omega) (by omega)).eq ?_
 ·
  simp only [Fu.l0]
  exact Eve.ite (fun h => absurd h (by omega)) (fun _ => Eve.one)
 ·
  have hsz:=hs l[i] (List.getElem_mem hi)
  simp only [Fu.l0];refine Eve.ite (fun _ => ?_) (fun h => absurd h (by omega));refine Eve.ite (fun _ => ?_) (fun h => absurd h (by omega));simp only [rdLE _ _ hi,szEntry_tells _ hsz a b,Option.bind_some,wi (show i≤9223372036854775806 by omega)]
  by_cases h2 : l' - (l[i].f0.size : Int)<0
  ·
   simp only [if_pos h2]
   exact Eve.ite (fun _ => Eve.one) (fun h => absurd h (by omega))
  simp only [if_neg h2];exact ih (by omega)
 have : ((szES l : Nat) : Int)=l.length + total (fun e => e.f0.size) l:=by simp [szES]
 rw [this,Int.sub_sub]
theorem szPage_tells (p : LPag) (hl : p.f1.length≤9223372036854775807) (hs : ∀ x ∈ p.f1,x.f0.size≤9223372036854775807) {left : Int} (h0 : 0≤left) (h1 : left≤1048576) :
  Eve (fun k => Ff.f k p.f0 p.f1 left) (if left - szES p.f1<0 then -1 else left - szES p.f1):=by
 simp only [Ff.f];refine Eve.bind (szEntryS_tells p.f1 hl hs h0 h1) ?_
 by_cases h : left - szES p.f1<0
 ·
  simp only [if_pos h];exact Eve.ite (fun _ => Eve.one) (fun h => absurd h (by omega))
 simp only [if_neg h];exact Eve.one
def goodP (p : LPag) : Prop:=p.f1.length≤9223372036854775807 ∧ ∀ x ∈ p.f1,x.f0.size≤9223372036854775807
def szPS (l : List LPag) : Nat:=l.length + total (fun p => szES p.f1) l
theorem szPageS_tells (l : List LPag) (hl : l.length≤9223372036854775807) (hs : ∀ x ∈ l,goodP x) {left : Int} (h0 : 0≤left) (h1 : left≤1048576) :
  Eve (fun k => Fv.f k l left) (if left - szPS l<0 then -1 else left - szPS l):=by
 simp only [Fv.f];rw [w64 (by omega) (by omega)];refine Eve.ite (fun h => Eve.one.eq ?_) (fun h => ?_)
 ·
  rw [if_pos (by simp [szPS];omega)]
 refine (ev_less l (fun k l' i => Fv.l0 k l l' i) (fun p => szES p.f1) (fun l' => ?_) (fun i hi l' v a b ih => ?_) (by omega) (by omega)).eq ?_
 ·
  simp only [Fv.l0]
  exact Eve.ite (fun h => absurd h (by omega)) (fun _ => Eve.one)
 ·
  have hsz:=hs l[i] (List.getElem_mem hi)
  simp only [Fv.l0];refine Eve.ite (fun _ => ?_) (fun h => absurd h (by omega));refine Eve.ite (fun _ => ?_) (fun h => absurd h (by omega));simp only [rdLP _ _ hi,wi (show i≤9223372036854775806 by omega)];refine Eve.bind (szPage_tells l[i] hsz.1 hsz.2 a b) ?_
  by_cases h2 : l' - (szES l[i].f1 : Int)<0
  ·
   simp only [if_pos h2]
   exact Eve.ite (fun _ => Eve.one) (fun h => absurd h (by omega))
  simp only [if_neg h2];exact ih (by omega)
 have : ((szPS l : Nat) : Int)=l.length + total (fun p => szES p.f1) l:=by simp [szPS]
 rw [this,Int.sub_sub]
theorem szTree_tells (l : List LPag) (n : Int) (hl : l.length≤9223372036854775807) (hs : ∀ x ∈ l,goodP x) {left : Int} (h0 : 0≤left) (h1 : left≤1048576) :
  Eve (fun k => F07.f k l n left) (if left - szPS l<0 then -1 else left - szPS l):=by
 simp only [F07.f];refine Eve.bind (szPageS_tells l hl hs h0 h1) ?_
 by_cases h : left - szPS l<0
 ·
  simp only [if_pos h];exact Eve.ite (fun _ => Eve.one) (fun h => absurd h (by omega))
 simp only [if_neg h];exact Eve.one
def Fits (l : List LPag) : Prop:=szPS l≤1048576
theorem Fits.len {l : List LPag} (h : Fits l) : l.length≤1048576:=by unfold Fits szPS at h;omega
theorem Fits.page {l : List LPag} (h : Fits l) (p : LPag) (hp : p ∈ l) : p.f1.length≤1048576:=by
 unfold Fits szPS at h;have:=total_le (fun p => szES p.f1) l p hp;simp only [szES] at this;unfold szES at h
 omega
theorem flat_le : ∀ l : List LPag,(l.flatMap (·.f1)).length≤total (fun p => szES p.f1) l
 | [] => by simp
 | p :: l => by
  have:=flat_le l;simp [total,szES] at *
  omega
theorem Fits.flat {l : List LPag} (h : Fits l) : (l.flatMap (·.f1)).length≤1048576:=by
 have:=flat_le l;unfold Fits szPS at h
 omega
theorem toEntryS_tells (l : List LEnt) (hl : l.length≤1048576) : Eve (fun k => Fs.f k l) (l.map ie):=by
 simp only [Fs.f];refine Eve.ite (fun _ => ?_) (fun h => absurd h (by omega));refine Eve.ite (fun _ => ?_) (fun h => absurd h (by omega));refine (ev_map l (fun k ys i => Fs.l0 k l ys i) ie z51 (fun ys hy => ?_) (fun i hi ys v hy ih => ?_))
 ·
  simp only [Fs.l0]
  exact Eve.ite (fun h => absurd h (by omega)) (fun _ => Eve.one)
 simp only [Fs.l0];refine Eve.ite (fun _ => ?_) (fun h => absurd h (by omega));refine Eve.ite (fun _ => ?_) (fun h => absurd h (by omega));simp only [rdLE _ _ hi,Fn.f,Option.bind_some,wi (show i≤9223372036854775806 by omega)];refine Eve.ite (fun _ => ?_) (fun h => absurd h (by omega));exact ih
theorem toPage_tells (p : LPag) (hl : p.f1.length≤1048576) : Eve (fun k => Fg.f k p.f0 p.f1) (p.f0,p.f1.map ie):=by
 simp only [Fg.f];exact Eve.bind (toEntryS_tells p.f1 hl) Eve.one
theorem toPageS_tells (l : List LPag) (hl : l.length≤1048576) (hs : ∀ p ∈ l,p.f1.length≤1048576) : Eve (fun k => Ft.f k l) (l.map ip):=by
 simp only [Ft.f];refine Eve.ite (fun _ => ?_) (fun h => absurd h (by omega));refine Eve.ite (fun _ => ?_) (fun h => absurd h (by omega));refine (ev_map l (fun k ys i => Ft.l0 k l ys i) ip z67 (fun ys hy => ?_) (fun i hi ys v hy ih => ?_))
 ·
  simp only [Ft.l0]
  exact Eve.ite (fun h => absurd h (by omega)) (fun _ => Eve.one)
 simp only [Ft.l0];refine Eve.ite (fun _ => ?_) (fun h => absurd h (by omega));refine Eve.ite (fun _ => ?_) (fun h => absurd h (by omega));simp only [rdLP _ _ hi,wi (show i≤9223372036854775806 by omega)];refine Eve.bind (toPage_tells l[i] (hs _ (List.getElem_mem hi))) ?_;refine Eve.ite (fun _ => ?_) (fun h => absurd h (by omega));exact ih
theorem toTree_tells (l : List LPag) (n : Int) (h : Fits l) : Eve (fun k => Fp.f k l n) (l.map ip,n):=by
 simp only [Fp.f];exact Eve.bind (toPageS_tells l h.len h.page) Eve.one
theorem eqEntryS_self (l : List IEnt) (hl : l.length≤1048576) : Eve (fun k => F8.f k l l) true:=by
 simp only [F8.f,if_true];refine (ev_all l (fun k i => F8.l0 k l l i) (fun _ => true) ?_ (fun i hi v ih => ?_)).eq (by simp)
 ·
  simp only [F8.l0]
  exact Eve.ite (fun h => absurd h (by omega)) (fun _ => Eve.one)
 simp only [F8.l0];refine Eve.ite (fun _ => ?_) (fun h => absurd h (by omega));refine Eve.ite (fun _ => ?_) (fun h => absurd h (by omega));simp only [F5.f,if_true,Option.bind_some,wi (show i≤9223372036854775806 by omega),Bool.true_and];exact Eve.ite (fun _ => ih) (fun h => absurd (by omega) h)
theorem eqPageS_self (l : List IPag) (hl : l.length≤1048576) (hs : ∀ p ∈ l,p.f1.length≤1048576) : Eve (fun k => Fh.f k l l) true:=by
 simp only [Fh.f,if_true];refine (ev_all l (fun k i => Fh.l0 k l l i) (fun _ => true) ?_ (fun i hi v ih => ?_)).eq (by simp)
 ·
  simp only [Fh.l0]
  exact Eve.ite (fun h => absurd h (by omega)) (fun _ => Eve.one)
 simp only [Fh.l0];refine Eve.ite (fun _ => ?_) (fun h => absurd h (by omega));refine Eve.ite (fun _ => ?_) (fun h => absurd h (by omega));refine Eve.ite (fun _ => ?_) (fun h => absurd (by omega) h);simp only [rdIP _ _ hi,Fb.f,if_true,Bool.true_and,wi (show i≤9223372036854775806 by omega)];refine Eve.bind (v:=true) (Eve.bind (eqEntryS_self _ (hs _ (List.getElem_mem hi))) ?_) ?_
 ·
  simp only [if_true];exact Eve.one
 simp only [if_true];exact ih
theorem eqTree_self (l : List IPag) (n : Int) (hl : l.length≤1048576) (hs : ∀ p ∈ l,p.f1.length≤1048576) : Eve (fun k => F06.f k l n l n) true:=by
 simp only [F06.f,if_true];refine Eve.bind (eqPageS_self l hl hs) ?_;simp only [if_true];exact Eve.one
theorem eqTree_to (l : List LPag) (n : Int) (h : Fits l) : Eve (fun k => F06.f k (l.map ip) n (l.map ip) n) true:=by
 refine eqTree_self _ n (by simpa using h.len) (fun p hp => ?_);obtain ⟨q,hq,rfl⟩:=List.mem_map.1 hp
 simpa [ip] using h.page q hq
theorem good_pages {l : List LPag} (h : l.length≤9223372036854775807 ∧ ∀ y ∈ l,good79 y) : ∀ p ∈ l,goodP p :=
 fun p hp => ⟨(h.2 p hp).2.1,fun e he => ((h.2 p hp).2.2 e he).1⟩
end Go.Proofs.Ytamikhmpfmgofaa.Pure
end
section
namespace Go.Proofs.Ytamikhmpfmgofaa.Pure
open Go.RowKit Go.Proofs.Ytamikhmpfmgofaa.Q Go.Proofs.YtamikhmpfmgofaaW.PrintWords Go.Proofs.YtamikhmpfmgofaaW.PrintLast Go.Proofs.YtamikhmpfmgofaaW.PrintMore Go.Proofs.YtamikhmpfmgofaaW.Pl
theorem cb_is : ∀ x y : List UInt8,Lib.compareBytes x y=if Op.bytesLess x y=true then -1 else if x=y then 0 else 1
 | [],[] => by simp [Lib.compareBytes,Op.bytesLess]
 | [],_ :: _ => by simp [Lib.compareBytes,Op.bytesLess]
 | _ :: _,[] => by simp [Lib.compareBytes,Op.bytesLess]
 | a :: x,b :: y => by
  simp only [Lib.compareBytes,Op.bytesLess];rw [cb_is x y]
  by_cases h : a<b
  ·
   simp [h]
  by_cases h2 : b<a
  ·
   have h3 : ¬ a=b:=by rintro rfl;exact h h2
   simp [h,h2,h3]
  have h3 : a=b:=by
   apply UInt8.toNat_inj.mp;rw [UInt8.lt_iff_toNat_lt] at h h2
   omega
  subst h3;simp [h]
def el (a b : IEnt) : Bool:=Op.bytesLess a.f0.toList b.f0.toList || (decide (a.f0.toList=b.f0.toList) && decide (a.f1<b.f1))
theorem less_tells (a b : IEnt) : F08.f a.f0 a.f1 b.f0 b.f1=some (el a b):=by
 unfold F08.f el
 by_cases h : Op.bytesLess a.f0.toList b.f0.toList=true
 ·
  rw [if_pos h,h];rfl
 rw [if_neg h]
 by_cases h2 : a.f0.toList=b.f0.toList
 ·
  rw [if_pos h2];simp [h2] at *;simp [h]
 rw [if_neg h2];simp [h,h2]
def ce (a b : IEnt) : Int:=if Op.bytesLess a.f0.toList b.f0.toList=true then -1 else if a.f0.toList=b.f0.toList then (if a.f1<b.f1 then -1 else if a.f1 > b.f1 then 1 else 0) else 1
theorem compare_tells (a b : IEnt) : Eve (fun k => Fr.f k a.f0 a.f1 b.f0 b.f1) (ce a b):=by
 refine ⟨4,fun k hk => ?_⟩;obtain ⟨k,rfl⟩ : ∃ m,k=m + 3:=⟨k - 3,by omega⟩;have w1 : wrap64 (0 + 1)=1:=w64 (by omega) (by omega);have w2 : wrap64 (1 + 1)=2:=w64 (by omega) (by omega)
 have hor : ∀ p q : Int,Fw.f (k + 3) [p,q]=some (if p=0 then q else p):=by
  intro p q;have r0 : rd [p,q] 0=p:=rfl;have r1 : rd [p,q] 1=q:=rfl;simp only [Fw.f,Fw.l0,List.length_cons,List.length_nil,w1,w2,r0,r1]
  by_cases hp : p=0
  ·
   by_cases hq : q=0
   ·
    simp [hp,hq]
   simp [hp,hq]
  simp [hp]
 have hc : F0a.f a.f1 b.f1=some (if a.f1<b.f1 then -1 else if a.f1 > b.f1 then 1 else 0):=by
  simp only [F0a.f,F02.f,Option.bind_some,bne_self_eq_false,Bool.false_eq_true,if_false]
  repeat' split
  all_goals rfl
 unfold Fr.f strings_Compare.f;rw [hc];simp only [Option.bind_some,hor,← ba_toList,cb_is];unfold ce
 by_cases h : Op.bytesLess a.f0.toList b.f0.toList=true
 ·
  simp [h]
 by_cases h2 : a.f0.toList=b.f0.toList
 ·
  simp only [if_neg h,if_pos h2,if_true]
 simp [h,h2]
theorem less_irrefl (x : List UInt8) : Op.bytesLess x x=false:=by
 rw [← bytesLess_total x x];simp
theorem ce_lt (a b : IEnt) : ce a b ≥ 0 ↔ ¬ el a b=true:=by
 unfold ce el
 by_cases h : Op.bytesLess a.f0.toList b.f0.toList=true
 ·
  simp [h]
 by_cases h2 : a.f0.toList=b.f0.toList
 ·
  rw [h2,less_irrefl]
  by_cases h3 : a.f1<b.f1
  ·
   simp [h3]
  by_cases h4 : a.f1 > b.f1
  ·
   simp [h3,h4]
  simp [h3,h4]
 simp [h,h2]
theorem ce_le (a b : IEnt) : ce a b≤0 ↔ ¬ el b a=true:=by
 unfold ce el;have ht:=bytesLess_total a.f0.toList b.f0.toList;rw [← ht]
 by_cases h : Op.bytesLess a.f0.toList b.f0.toList=true
 ·
  have : ¬ b.f0.toList=a.f0.toList:=by intro e;rw [e,less_irrefl] at h;simp at h
  simp [h,this]
 by_cases h2 : a.f0.toList=b.f0.toList
 ·
  rw [h2,less_irrefl]
  by_cases h3 : a.f1<b.f1
  ·
   have : ¬ b.f1<a.f1:=by omega
   simp [h3,this]
  by_cases h4 : a.f1 > b.f1
  ·
   have : b.f1<a.f1:=by omega
   simp [h3,h4]
  have : ¬ b.f1<a.f1:=by omega
  simp [h3,h4]
 simp [h,h2]
def inr (a b c : Int) : Bool:=decide (b≤a) && decide (a≤c)
theorem in_spec (a b c : Int) : F01.f a b c=some (inr a b c):=by
 unfold F01.f inr
 by_cases h : b≤a
 ·
  rw [if_pos h];simp [h]
 rw [if_neg h];simp [h]
theorem in_impl (a b c : Int) : F00.f a b c=some (inr a b c):=in_spec a b c
def eok (e : IEnt) : Bool:=decide ((e.f0.size : Int)≤2000) && inr e.f1 0 9999
theorem eok_spec (e : IEnt) : F0d.f e.f0 e.f1=some (eok e):=by
 unfold F0d.f eok
 by_cases h : (e.f0.size : Int)≤2000
 ·
  rw [if_pos h,in_spec];simp [h]
 rw [if_neg h];simp [h]
theorem eok_impl (e : IEnt) : F0c.f e.f0 e.f1=some (eok e):=eok_spec e
def ens : IEnt→List IEnt→Bool
 | _,[] => true
 | p,e :: es => eok e && (el p e && ens e es)
def lastE : IEnt→List IEnt→IEnt
 | p,[] => p
 | _,e :: es => lastE e es
theorem ens_append : ∀ (p : IEnt) (xs ys : List IEnt),ens p (xs ++ ys)=(ens p xs && ens (lastE p xs) ys)
 | p,[],ys => by simp [ens,lastE]
 | p,e :: xs,ys => by simp only [List.cons_append,ens,lastE,ens_append e xs ys,Bool.and_assoc]
def noE : IEnt:=⟨(⟨#[]⟩ : ByteArray),-1⟩
theorem noE_less (e : IEnt) (h : eok e=true) : el noE e=true:=by
 unfold eok inr at h;simp only [Bool.and_eq_true,decide_eq_true_eq] at h;have h0 : noE.f0.toList=[]:=by rw [ba_toList];rfl
 have h1 : noE.f1 = -1:=rfl;unfold el;rw [h0,h1]
 cases e.f0.toList with
 | nil => simp [Op.bytesLess];omega
 | cons a x => simp [Op.bytesLess]
def pok (T : List IPag) (n : Int) (seen : List Int) (p : IPag) : Bool:=inr p.f0 1 (n - 1) && (!seen.contains p.f0 && (decide ((p.f1.length : Int)≤4) && !(decide ((p.f1.length : Int)=0) && decide ((T.length : Int) > 1))))
def poks (T : List IPag) (n : Int) : List Int→List IPag→Bool
 | _,[] => true
 | seen,p :: ps => pok T n seen p && poks T n (seen ++ [p.f0]) ps
def tok (T : List IPag) (n : Int) : Bool:=inr T.length 1 60 && (inr n 2 100000 && (poks T n [] T && ens noE (T.flatMap (·.f1))))
theorem entries_tells (T : List IPag) (n : Int) (hT : T.length≤1048576) (hf : (T.flatMap (·.f1)).length≤1048576) : Eve (fun k => Fj.f k T n) (T.flatMap (·.f1)):=by
 simp only [Fj.f]
 have:=ev_loop0 T (fun k ys i => Fj.l0 k ys T (T.length : Int) i) (fun _ ys r => ys ++ r.flatMap (·.f1)) (fun i ys => ys ++ (T.drop i).flatMap (·.f1)=T.flatMap (·.f1)) (fun ys _ => by
  simp only [Fj.l0]
  exact Eve.ite (fun h => absurd h (by omega)) (fun _ => Eve.one.eq (by simp))) (fun i hi ys hI ih => by
  rw [drop_at T i hi,List.flatMap_cons] at hI;simp only [Fj.l0];refine Eve.ite (fun _ => ?_) (fun h => absurd (by omega) h);refine Eve.ite (fun _ => ?_) (fun h => absurd (by omega) h);refine Eve.ite (fun _ => ?_) (fun h => absurd (by omega) h);simp only [rdIP _ _ hi,wi (show i≤9223372036854775806 by omega)];refine Eve.ite (fun _ => ?_) (fun h => absurd ?_ h)
  ·
   exact (ih (ys ++ T[i].f1) (by rw [← hI,List.append_assoc])).eq (by rw [List.append_assoc,List.flatMap_cons])
  have:=congrArg List.length hI;simp only [List.length_append] at this
  omega) [] (by simp)
 simpa using this
theorem contains_tells (xs : List Int) (a : Int) (h : xs.length≤1048576) : Eve (fun k => F04.f k xs a) (xs.contains a):=by
 simp only [F04.f,Fx.f];refine Eve.bind (v:=first (fun x => decide (a=x)) xs 0) ?_ (Eve.one.eq ?_)
 ·
  refine ev_loop0 xs (fun k (_ : Unit) i => Fx.l0 k xs a (xs.length : Int) i) (fun i _ r => first (fun x => decide (a=x)) r i) (fun _ _ => True) (fun _ _ => ?_) (fun i hi s _ ih => ?_) () trivial
  ·
   simp only [Fx.l0]
   exact Eve.ite (fun h => absurd h (by omega)) (fun _ => Eve.one)
  simp only [Fx.l0];refine Eve.ite (fun _ => ?_) (fun h => absurd (by omega) h);refine Eve.ite (fun _ => ?_) (fun h => absurd (by omega) h);refine Eve.ite (fun _ => ?_) (fun h => absurd (by omega) h);simp only [rd_at _ _ hi,wi (show i≤9223372036854775806 by omega)];refine Eve.ite (fun h => Eve.one.eq ?_) (fun h => (ih () trivial).eq ?_)
  ·
   simp [first,h]
  simp [first,h]
 rw [first_any]
 induction xs with
 | nil => rfl
 | cons x xs ih =>
  rw [List.any_cons,ih (by simp at h;omega),List.contains_cons]
  by_cases e : a=x <;> simp [e]
theorem implOK_tells (T : List IPag) (n : Int) (hT : T.length≤1048576) (hf : (T.flatMap (·.f1)).length≤1048576) : Eve (fun k => F4.f k T n) (tok T n):=by
 have hj1 : Eve (fun k => F4.j0 k true T n) false:=Eve.succ (by simp only [F4.j0,if_true];exact Eve.one);simp only [F4.f,in_impl,Option.bind_some];refine Eve.ite (fun h1 => ?_) (fun h1 => hj1.eq (by simp [tok,h1]))
 cases h2 : inr n 2 100000
 ·
  exact hj1.eq (by simp [tok,h2])
 refine Eve.succ ?_;simp only [F4.j0,Bool.not_true,Bool.false_eq_true,if_false]
 have hn : wrap64 (n - 1)=n - 1:=by
  unfold inr at h2;simp only [Bool.and_eq_true,decide_eq_true_eq] at h2;exact w64 (by omega) (by omega)
 have:=ev_loop0 T (fun k ys i => F4.l0 k ys T (T.length : Int) i T n) (fun _ ys r => poks T n ys r && ens noE (T.flatMap (·.f1))) (fun i ys => ys.length=i) (fun ys hy => by
  simp only [F4.l0];refine Eve.ite (fun h => absurd h (by omega)) (fun _ => ?_);refine Eve.bind (entries_tells T n hT hf) ?_;generalize hE : T.flatMap (·.f1)=E at hf ⊢
  have hl:=ev_loop0 E (fun k (_ : Unit) i => F4.l1 k E E (E.length : Int) i) (fun i _ r => ens (if i=0 then noE else E.getD (i - 1) noE) r) (fun _ _ => True) (fun _ _ => by
   simp only [F4.l1]
   exact Eve.ite (fun h => absurd h (by omega)) (fun _ => Eve.one)) (fun i hi s _ ih => by
   simp only [F4.l1];refine Eve.ite (fun _ => ?_) (fun h => absurd (by omega) h);refine Eve.ite (fun _ => ?_) (fun h => absurd (by omega) h);refine Eve.ite (fun _ => ?_) (fun h => absurd (by omega) h);simp only [rdIE _ _ hi,eok_impl,Option.bind_some,wi (show i≤9223372036854775806 by omega)];have hnx:=ih () trivial;simp only [Nat.add_one_ne_zero,if_false,Nat.add_sub_cancel,List.getD_eq_getElem?_getD,List.getElem?_eq_getElem hi,Option.getD_some] at hnx;refine Eve.ite (fun h1 => ?_) (fun h1 => Eve.one.eq (by simp [ens,h1]));refine Eve.ite (fun h2 => ?_) (fun h2 => hnx.eq ?_)
   ·
    have hw : wrap64 ((i : Int) - 1)=((i - 1 : Nat) : Int):=by rw [w64 (by omega) (by omega)];omega
    simp only [hw];refine Eve.ite (fun _ => ?_) (fun h => absurd (by omega) h);refine Eve.ite (fun _ => ?_) (fun h => absurd (by omega) h);rw [if_neg (by omega),List.getD_eq_getElem?_getD,List.getElem?_eq_getElem (show i - 1<E.length by omega),Option.getD_some];simp only [rdIE _ _ (show i - 1<E.length by omega)];refine Eve.bind (compare_tells _ _) ?_;refine Eve.ite (fun h3 => Eve.one.eq ?_) (fun h3 => hnx.eq ?_)
    ·
     have:=(ce_lt _ _).1 h3
     simp [ens,this]
    have : el (E[i - 1]) E[i]=true:=by
     by_cases h4 : el (E[i - 1]) E[i]=true
     ·
      exact h4
     exact absurd ((ce_lt _ _).2 h4) h3
    simp [ens,this,h1]
   obtain rfl : i=0:=by omega
   rw [if_pos rfl]
   simp [ens,h1,noE_less _ h1]) () trivial
  rw [if_pos rfl] at hl
  exact hl.eq (by simp [poks])) (fun i hi ys hI ih => by
  simp only [F4.l0];refine Eve.ite (fun _ => ?_) (fun h => absurd (by omega) h);refine Eve.ite (fun _ => ?_) (fun h => absurd (by omega) h);refine Eve.ite (fun _ => ?_) (fun h => absurd (by omega) h);simp only [rdIP _ _ hi,hn,in_impl,Option.bind_some,wi (show i≤9223372036854775806 by omega)];refine Eve.ite (fun h1 => ?_) (fun h1 => Eve.one.eq (by simp [poks,pok,h1]));refine Eve.bind (contains_tells ys _ (by omega)) ?_;refine Eve.ite (fun h2 => Eve.one.eq (by simp only [poks,pok,h2];simp)) (fun h2 => ?_);refine Eve.ite (fun h3 => Eve.one.eq ?_) (fun h3 => ?_)
  ·
   have : ¬ ((T[i].f1.length : Int)≤4):=by omega
   simp only [poks,pok,this];simp
  have h3' : ((T[i].f1.length : Int)≤4):=by omega
  have hnx:=ih (ys ++ [T[i].f0]) (by simp [hI]);refine Eve.ite (fun h4 => ?_) (fun h4 => ?_)
  ·
   refine Eve.ite (fun h5 => Eve.one.eq ?_) (fun h5 => ?_)
   ·
    simp only [poks,pok,h4,h5];simp
   refine Eve.ite (fun _ => hnx.eq ?_) (fun h => absurd (by omega) h);simp only [poks,pok,h1,h2,h4,h5];simp
  refine Eve.ite (fun _ => hnx.eq ?_) (fun h => absurd (by omega) h)
  simp only [poks,pok,h1,h2,h3',h4];simp) [] rfl
 exact this.eq (by simp [tok,h1,h2])
theorem specOK_tells (T : List IPag) (n : Int) (hT : T.length≤1048576) (hf : ∀ p ∈ T,p.f1.length≤1048576) : Eve (fun k => F3.f k T n) (tok T n):=by
 have hj1 : Eve (fun k => F3.j0 k true T n) false:=Eve.succ (by simp only [F3.j0,if_true];exact Eve.one);simp only [F3.f,in_spec,Option.bind_some];refine Eve.ite (fun h1 => ?_) (fun h1 => hj1.eq (by simp [tok,h1]))
 cases h2 : inr n 2 100000
 ·
  exact hj1.eq (by simp [tok,h2])
 refine Eve.succ ?_;simp only [F3.j0,Bool.not_true,Bool.false_eq_true,if_false]
 have hn : wrap64 (n - 1)=n - 1:=by
  unfold inr at h2;simp only [Bool.and_eq_true,decide_eq_true_eq] at h2;exact w64 (by omega) (by omega)
 have:=ev_loop0 T (fun k (e : IEnt) i => F3.l0 k i T n e.f0 e.f1) (fun i e r => poks T n ((T.take i).map (·.f0)) r && ens e (r.flatMap (·.f1))) (fun _ _ => True) (fun e _ => by
  simp only [F3.l0]
  exact Eve.ite (fun h => absurd h (by omega)) (fun _ => Eve.one)) (fun i hi e _ ih => by
  have htk : (T.take (i + 1)).map (·.f0)=(T.take i).map (·.f0) ++ [T[i].f0]:=by
   rw [List.take_succ_eq_append_getElem hi,List.map_append];rfl
  simp only [htk] at ih;simp only [F3.l0];refine Eve.ite (fun _ => ?_) (fun h => absurd (by omega) h);refine Eve.ite (fun _ => ?_) (fun h => absurd (by omega) h);simp only [rdIP _ _ hi,hn,in_spec,Option.bind_some];generalize hp : T[i]=p at ih ⊢;have hpl : p.f1.length≤1048576:=by rw [← hp];exact hf _ (List.getElem_mem hi)
  have hjt : ∀ v,v=false→Eve (fun k => F3.j2 k (i : Int) true T n e.f0 e.f1 p.f0 p.f1) v:=fun v hv => Eve.succ (by simp only [F3.j2,if_true];exact Eve.one.eq hv.symm);have hjf : ∀ v,Eve (fun k => F3.l1 k (i : Int) 0 T n e.f0 e.f1 p.f0 p.f1) v→Eve (fun k => F3.j2 k (i : Int) false T n e.f0 e.f1 p.f0 p.f1) v:=fun v hv => Eve.succ (by simp only [F3.j2,Bool.false_eq_true,if_false];exact hv)
  have hl2 : Eve (fun k => F3.l2 k (i : Int) 0 T n e.f0 e.f1 p.f0 p.f1) (ens e p.f1 && (poks T n ((T.take i).map (·.f0) ++ [p.f0]) (T.drop (i + 1)) && ens (lastE e p.f1) ((T.drop (i + 1)).flatMap (·.f1)))):=by
   refine ev_loop0 p.f1 (fun k (e : IEnt) j => F3.l2 k (i : Int) j T n e.f0 e.f1 p.f0 p.f1) (fun _ e r => ens e r && (poks T n ((T.take i).map (·.f0) ++ [p.f0]) (T.drop (i + 1)) && ens (lastE e r) ((T.drop (i + 1)).flatMap (·.f1)))) (fun _ _ => True) (fun e' _ => ?_) (fun j hj e' _ ih2 => ?_) e trivial
   ·
    simp only [F3.l2]
    refine Eve.ite (fun h => absurd h (by omega)) (fun _ => ?_);simp only [wi (show i≤9223372036854775806 by omega)];exact (ih e' trivial).eq (by simp [ens,lastE])
   simp only [F3.l2];refine Eve.ite (fun _ => ?_) (fun h => absurd (by omega) h);refine Eve.ite (fun _ => ?_) (fun h => absurd (by omega) h);simp only [rdIE _ _ hj,eok_spec,less_tells,Option.bind_some,wi (show j≤9223372036854775806 by omega)];refine Eve.ite (fun h1 => ?_) (fun h1 => Eve.one.eq (by simp [ens,h1]));refine Eve.ite (fun h2 => (ih2 p.f1[j] trivial).eq ?_) (fun h2 => Eve.one.eq (by simp [ens,h2]));simp only [ens,h1,h2,lastE,Bool.true_and]
  have hl1 : Eve (fun k => F3.l1 k (i : Int) 0 T n e.f0 e.f1 p.f0 p.f1) (!((T.take i).map (·.f0)).contains p.f0 && (ens e p.f1 && (poks T n ((T.take i).map (·.f0) ++ [p.f0]) (T.drop (i + 1)) && ens (lastE e p.f1) ((T.drop (i + 1)).flatMap (·.f1))))):=by
   have hx : (T.take i).length=i:=by simp;omega
   refine ev_loop0 (T.take i) (fun k (_ : Unit) j => F3.l1 k (i : Int) j T n e.f0 e.f1 p.f0 p.f1) (fun _ _ r => !(r.map (·.f0)).contains p.f0 && (ens e p.f1 && (poks T n ((T.take i).map (·.f0) ++ [p.f0]) (T.drop (i + 1)) && ens (lastE e p.f1) ((T.drop (i + 1)).flatMap (·.f1))))) (fun _ _ => True) (fun _ _ => ?_) (fun j hj s _ ih2 => ?_) () trivial
   ·
    simp only [F3.l1,hx]
    exact Eve.ite (fun h => absurd h (by omega)) (fun _ => hl2.eq (by simp))
   have hjT : j<T.length:=by omega
   simp only [F3.l1];refine Eve.ite (fun _ => ?_) (fun h => absurd (by omega) h);refine Eve.ite (fun _ => ?_) (fun h => absurd (by omega) h);refine Eve.ite (fun _ => ?_) (fun h => absurd (by omega) h);simp only [rdIP _ _ hjT,wi (show j≤9223372036854775806 by omega),List.getElem_take];refine Eve.ite (fun h => Eve.one.eq ?_) (fun h => (ih2 () trivial).eq ?_)
   ·
    simp [h]
   simp [Ne.symm h]
  have happ : ∀ b : Bool,(b && poks T n ((T.take i).map (·.f0) ++ [p.f0]) (T.drop (i + 1)) && ens e ((p :: T.drop (i + 1)).flatMap (·.f1)))=(b && (ens e p.f1 && (poks T n ((T.take i).map (·.f0) ++ [p.f0]) (T.drop (i + 1)) && ens (lastE e p.f1) ((T.drop (i + 1)).flatMap (·.f1))))):=by
   intro b;rw [List.flatMap_cons,ens_append];generalize poks T n ((T.take i).map (·.f0) ++ [p.f0]) (T.drop (i + 1))=u
   cases b <;> cases u <;> simp
  simp only [poks,happ];refine Eve.ite (fun h1 => ?_) (fun h1 => hjt _ (by simp [pok,h1]));refine Eve.ite (fun h3 => hjt _ ?_) (fun h3 => ?_)
  ·
   have : ¬ ((p.f1.length : Int)≤4):=by omega
   simp only [pok,this];simp
  have h3' : ((p.f1.length : Int)≤4):=by omega
  refine Eve.ite (fun h4 => ?_) (fun h4 => ?_)
  ·
   by_cases h5 : (T.length : Int) > 1
   ·
    simp only [h5,decide_true]
    refine hjt _ ?_;simp only [pok,h4,h5];simp
   simp only [h5,decide_false];refine (hjf _ hl1).eq ?_;simp only [pok,h1,h4,h5];simp
  refine (hjf _ hl1).eq ?_
  simp only [pok,h1,h3',h4];simp) noE trivial
 exact this.eq (by simp [tok,h1,h2])
def ihas (lo hi : ByteArray) (op : Bool) (key : ByteArray) : Bool:=if Op.bytesLess key.toList lo.toList=true then false else if op=true then true else Op.bytesLess key.toList hi.toList
def place (e : IEnt) : Nat→Int→List IPag→Int
 | _,at_,[] => at_
 | i,at_,p :: ps => place e (i + 1) (match p.f1 with|[] => at_|f :: _ => if el e f=true then at_ else (i : Int)) ps
theorem bl_trans : ∀ {x y z : List UInt8},Op.bytesLess x y=true→Op.bytesLess y z=true→Op.bytesLess x z=true
 | [],_,[],_,h => by rename_i y _;cases y <;> simp [Op.bytesLess] at h
 | [],_,_ :: _,_,_ => by simp [Op.bytesLess]
 | _ :: _,[],_,h,_ => by simp [Op.bytesLess] at h
 | _ :: _,_ :: _,[],_,h => by simp [Op.bytesLess] at h
 | a :: x,b :: y,c :: z,h1,h2 => by
  simp only [Op.bytesLess,Bool.or_eq_true,Bool.and_eq_true,decide_eq_true_eq,beq_iff_eq] at h1 h2 ⊢;rcases h1 with h1|⟨rfl,h1⟩ <;> rcases h2 with h2|⟨rfl,h2⟩
  ·
   left;rw [UInt8.lt_iff_toNat_lt] at *;omega
  ·
   exact .inl h1
  ·
   exact .inl h2
  exact .inr ⟨rfl,bl_trans h1 h2⟩
theorem bl_total {x y : List UInt8} (h1 : ¬ Op.bytesLess x y=true) (h2 : ¬ x=y) : Op.bytesLess y x=true:=by
 have:=bytesLess_total x y;rw [← this];simp [h1,h2]
theorem el_trans {a b c : IEnt} (h1 : el a b=true) (h2 : el b c=true) : el a c=true:=by
 unfold el at *;simp only [Bool.or_eq_true,Bool.and_eq_true,decide_eq_true_eq] at *;rcases h1 with h1|⟨h1,h1'⟩ <;> rcases h2 with h2|⟨h2,h2'⟩
 ·
  exact .inl (bl_trans h1 h2)
 ·
  exact .inl (h2 ▸ h1)
 ·
  exact .inl (h1 ▸ h2)
 exact .inr ⟨h1.trans h2,by omega⟩
theorem ens_ahead : ∀ (p : IEnt) (xs : List IEnt),ens p xs=true → ∀ x ∈ xs,el p x=true∧eok x=true
 | _,[],_,x,hx => by simp at hx
 | p,e :: xs,h,x,hx => by
  simp only [ens,Bool.and_eq_true] at h;rcases List.mem_cons.1 hx with rfl|hx
  ·
   exact ⟨h.2.1,h.1⟩
  have:=ens_ahead e xs h.2.2 x hx;exact ⟨el_trans h.2.1 this.1,this.2⟩
theorem ens_right : ∀ (p : IEnt) (xs ys : List IEnt),ens p (xs ++ ys)=true→ens (lastE p xs) ys=true:=fun p xs ys h => by
 rw [ens_append,Bool.and_eq_true] at h;exact h.2
theorem ens_left : ∀ (p : IEnt) (xs ys : List IEnt),ens p (xs ++ ys)=true→ens p xs=true:=fun p xs ys h => by
 rw [ens_append,Bool.and_eq_true] at h;exact h.1
theorem ens_behind : ∀ (p : IEnt) (xs : List IEnt) (f : IEnt) (ys : List IEnt),ens p (xs ++ f :: ys)=true → ∀ x ∈ xs,el x f=true
 | _,[],_,_,_,x,hx => by simp at hx
 | p,e :: xs,f,ys,h,x,hx => by
  simp only [List.cons_append,ens,Bool.and_eq_true] at h;rcases List.mem_cons.1 hx with rfl|hx
  ·
   exact (ens_ahead _ _ h.2.2 f (by simp)).1
  exact ens_behind e xs f ys h.2.2 x hx
theorem low_out {lo hi : ByteArray} {op : Bool} {x f : IEnt} (hx : eok x=true) (h1 : el x f=true) (h2 : ¬ el ⟨lo,-1⟩ f=true) : ihas lo hi op x.f0=false:=by
 have h3 : Op.bytesLess x.f0.toList lo.toList=true:=by
  by_cases h : Op.bytesLess x.f0.toList lo.toList=true
  ·
   exact h
  exfalso;apply h2
  by_cases e : x.f0.toList=lo.toList
  ·
   have : el ⟨lo,-1⟩ x=true:=by
    unfold eok inr at hx;simp only [Bool.and_eq_true,decide_eq_true_eq] at hx;unfold el;simp only [Bool.or_eq_true,Bool.and_eq_true,decide_eq_true_eq];exact .inr ⟨e.symm,by omega⟩
   exact el_trans this h1
  have : el ⟨lo,-1⟩ x=true:=by
   unfold el;simp only [Bool.or_eq_true];exact .inl (bl_total h e)
  exact el_trans this h1
 unfold ihas;rw [if_pos h3]
theorem high_out {lo hi : ByteArray} {x f : IEnt} (h1 : x=f∨el f x=true) (h2 : ¬ Op.bytesLess f.f0.toList hi.toList=true) : ihas lo hi false x.f0=false:=by
 have h3 : Op.bytesLess x.f0.toList hi.toList=false:=by
  cases h : Op.bytesLess x.f0.toList hi.toList with
  | false => rfl
  | true =>
   exfalso;rcases h1 with rfl|h1
   ·
    exact h2 h
   unfold el at h1;simp only [Bool.or_eq_true,Bool.and_eq_true,decide_eq_true_eq] at h1;rcases h1 with h1|⟨h1,_⟩
   ·
    exact h2 (bl_trans h1 h)
   exact h2 (by rw [h1];exact h)
 unfold ihas;rw [h3]
 split
 ·
  rfl
 split
 ·
  contradiction
 rfl
def stop (hi : ByteArray) (op : Bool) (p : IPag) : Bool:=!op && match p.f1 with|[] => false|f :: _ => !Op.bytesLess f.f0.toList hi.toList
def taken (hi : ByteArray) (op : Bool) : List IPag→List IPag
 | [] => []
 | p :: ps => if stop hi op p=true then [] else p :: taken hi op ps
def ranged (hi : ByteArray) (op : Bool) : List IPag→List IPag
 | [] => []
 | p :: ps => p :: taken hi op ps
theorem taken_all {lo hi : ByteArray} {op : Bool} : ∀ (q : IEnt) (ps : List IPag),ens q (ps.flatMap (·.f1))=true→((taken hi op ps).flatMap (·.f1)).filter (fun e => ihas lo hi op e.f0)=(ps.flatMap (·.f1)).filter (fun e => ihas lo hi op e.f0)
 | _,[],_ => rfl
 | q,p :: ps,h => by
  unfold taken
  by_cases hs : stop hi op p=true
  ·
   rw [if_pos hs]
   symm
   show _=List.filter _ [];rw [List.filter_nil,List.filter_eq_nil_iff];intro x hx;unfold stop at hs;rw [Bool.and_eq_true] at hs;obtain ⟨h1,h2⟩:=hs
   cases hp : p.f1 with
   | nil => rw [hp] at h2;simp at h2
   | cons f fs =>
    rw [hp] at h2;simp only at h2;have hop : op=false:=by simpa using h1
    subst hop;rw [List.flatMap_cons,hp,List.cons_append] at h hx;simp only [ens,Bool.and_eq_true] at h;rw [high_out (f:=f) ?_ (by simpa using h2)]
    ·
     simp
    rcases List.mem_cons.1 hx with rfl|hx
    ·
     exact .inl rfl
    exact .inr (ens_ahead _ _ h.2.2 x hx).1
  rw [if_neg hs,List.flatMap_cons,List.flatMap_cons,List.filter_append,List.filter_append];rw [List.flatMap_cons] at h;rw [taken_all _ ps (ens_right _ _ _ h)]
theorem ranged_all {lo hi : ByteArray} {op : Bool} (q : IEnt) (ps : List IPag) (h : ens q (ps.flatMap (·.f1))=true) : ((ranged hi op ps).flatMap (·.f1)).filter (fun e => ihas lo hi op e.f0)=(ps.flatMap (·.f1)).filter (fun e => ihas lo hi op e.f0):=by
 cases ps with
 | nil => rfl
 | cons p ps =>
  rw [List.flatMap_cons] at h;unfold ranged;rw [List.flatMap_cons,List.flatMap_cons,List.filter_append,List.filter_append,taken_all _ ps (ens_right _ _ _ h)]
theorem place_at (e : IEnt) : ∀ (T : List IPag) (i : Nat) (c : Int),place e i c T=c ∨ ∃ j f fs,∃ h : j<T.length,place e i c T=((i + j : Nat) : Int)∧T[j].f1=f :: fs ∧ ¬ el e f=true
 | [],_,_ => .inl rfl
 | p :: ps,i,c => by
  simp only [place];rcases place_at e ps (i + 1) (match p.f1 with|[] => c|f :: _ => if el e f=true then c else (i : Int)) with h|⟨j,f,fs,hj,h,h1,h2⟩
  ·
   rw [h]
   cases hp : p.f1 with
   | nil => exact .inl rfl
   | cons f fs =>
    simp only
    by_cases hl : el e f=true
    ·
     rw [if_pos hl];exact .inl rfl
    rw [if_neg hl];exact .inr ⟨0,f,fs,by simp,by simp,hp,hl⟩
  exact .inr ⟨j + 1,f,fs,by simpa using hj,by rw [h];congr 1;omega,h1,h2⟩
theorem drop_all {lo hi : ByteArray} {op : Bool} (T : List IPag) (h : ens noE (T.flatMap (·.f1))=true) : ((T.drop (place ⟨lo,-1⟩ 0 0 T).toNat).flatMap (·.f1)).filter (fun e => ihas lo hi op e.f0)=(T.flatMap (·.f1)).filter (fun e => ihas lo hi op e.f0):=by
 rcases place_at ⟨lo,-1⟩ T 0 0 with e|⟨j,f,fs,hj,e,h1,h2⟩
 ·
  rw [e];rfl
 rw [e];have e0 : ((0 + j : Nat) : Int).toNat=j:=by omega
 rw [e0];have hT : T=T.take j ++ T.drop j:=(List.take_append_drop j T).symm
 have hF : T.flatMap (·.f1)=(T.take j).flatMap (·.f1) ++ (T.drop j).flatMap (·.f1):=by
  conv => lhs;rw [hT]
  rw [List.flatMap_append]
 have hD : (T.drop j).flatMap (·.f1)=f :: (fs ++ (T.drop (j + 1)).flatMap (·.f1)):=by
  rw [drop_at T j hj,List.flatMap_cons,h1];rfl
 rw [hF,List.filter_append]
 have : ((T.take j).flatMap (·.f1)).filter (fun e => ihas lo hi op e.f0)=[]:=by
  rw [List.filter_eq_nil_iff];intro x hx;rw [hF] at h;have ha:=(ens_ahead _ _ (ens_left _ _ _ h) x hx).2;rw [hD] at h;have hb:=ens_behind _ _ _ _ h x hx;rw [low_out ha hb h2];simp
 rw [this,List.nil_append]
theorem ens_drop (T : List IPag) (j : Nat) (h : ens noE (T.flatMap (·.f1))=true) : ∃ q,ens q ((T.drop j).flatMap (·.f1))=true:=by
 have hF : T.flatMap (·.f1)=(T.take j).flatMap (·.f1) ++ (T.drop j).flatMap (·.f1):=by
  conv => lhs;rw [← List.take_append_drop j T]
  rw [List.flatMap_append]
 rw [hF] at h;exact ⟨_,ens_right _ _ _ h⟩
theorem range_all {lo hi : ByteArray} {op : Bool} (T : List IPag) (h : ens noE (T.flatMap (·.f1))=true) :
  ((ranged hi op (T.drop (place ⟨lo,-1⟩ 0 0 T).toNat)).flatMap (·.f1)).filter (fun e => ihas lo hi op e.f0)=(T.flatMap (·.f1)).filter (fun e => ihas lo hi op e.f0):=by
 obtain ⟨q,hq⟩:=ens_drop T (place ⟨lo,-1⟩ 0 0 T).toNat h;rw [ranged_all q _ hq,drop_all T h]
end Go.Proofs.Ytamikhmpfmgofaa.Pure
end
section
namespace Go.Proofs.Ytamikhmpfmgofaa.Pure
open Go Go.RowKit Go.Proofs.Ytamikhmpfmgofaa.Q Go.Proofs.YtamikhmpfmgofaaW.PrintWords Go.Proofs.YtamikhmpfmgofaaW.PrintLast Go.Proofs.YtamikhmpfmgofaaW.PrintMore Go.Proofs.YtamikhmpfmgofaaW.Pl
theorem one_size (b : Int) : (strOfNums [b]).size=1:=by
 unfold strOfNums;rw [← data_length];simp
theorem mark_loop : ∀ (n : Nat) (x : Int) (acc : ByteArray),0≤x→x≤n→acc.size + n≤4611686018427387904 → ∃ t,Eve (fun k => Fl.l0 k x acc) t:=by
 intro n
 induction n with
 | zero =>
  intro x acc h0 h1 h2;refine ⟨(⟨#[109]⟩ : ByteArray) ++ acc,Eve.succ ?_⟩;simp only [Fl.l0];exact Eve.ite (fun h => absurd h (by omega)) (fun _ => Eve.ite (fun _ => Eve.one) (fun h => absurd (by omega) h))
 | succ n ih =>
  intro x acc h0 h1 h2
  by_cases hx : x > 0
  ·
   have e1 : Int.tdiv x 10=x / 10:=Int.tdiv_eq_ediv_of_nonneg h0
   have e2 : wrap64 (x / 10)=x / 10:=w64 (by omega) (by omega);obtain ⟨t,ht⟩:=ih (x / 10) (strOfNums [(wrap64 (48 + (Int.tmod x 10))) % 256] ++ acc) (by omega) (by omega) (by rw [ByteArray.size_append,one_size];omega);refine ⟨t,Eve.succ ?_⟩;simp only [Fl.l0,Option.bind_some,one_size,e1,e2];exact Eve.ite (fun _ => Eve.ite (fun _ => ht) (fun h => absurd (by omega) h)) (fun h => absurd hx h)
  refine ⟨(⟨#[109]⟩ : ByteArray) ++ acc,Eve.succ ?_⟩;simp only [Fl.l0];exact Eve.ite (fun h => absurd h hx) (fun _ => Eve.ite (fun _ => Eve.one) (fun h => absurd (by omega) h))
theorem mark_text (x : Int) (h0 : 0≤x) (h1 : x≤4611686018427387904) : ∃ t,Eve (fun k => Fl.f k x) t:=by
 by_cases h : x≤0
 ·
  exact ⟨⟨#[109,48]⟩,by simp only [Fl.f];exact Eve.ite (fun _ => Eve.one) (fun h2 => absurd h h2)⟩
 obtain ⟨t,ht⟩:=mark_loop x.toNat x ⟨#[]⟩ h0 (by omega) (by show 0 + x.toNat≤_;omega);exact ⟨t,by simp only [Fl.f];exact Eve.ite (fun h2 => absurd h2 h) (fun _ => ht)⟩
open Classical in
noncomputable def mt (x : Int) : ByteArray:=if h : ∃ t,Eve (fun k => Fl.f k x) t then h.choose else ⟨#[]⟩
theorem mt_tells (x : Int) (h0 : 0≤x) (h1 : x≤4611686018427387904) : Eve (fun k => Fl.f k x) (mt x):=by
 have h:=mark_text x h0 h1;unfold mt;rw [dif_pos h];exact h.choose_spec
theorem filled {α : Type} (ys : List α) (n : Nat) (c : Nat→α) (h1 : ys.length=n) (h2 : ∀ j,j<n→ys[j]? = some (c j)) : ys=(List.range n).map c:=by
 apply List.ext_getElem?
 intro j
 by_cases hj : j<n
 ·
  rw [h2 j hj];simp [hj]
 rw [List.getElem?_eq_none (by omega),List.getElem?_eq_none (by simp;omega)]
theorem fill_next {α : Type} (ys : List α) (i : Nat) (c : Nat→α) (h1 : i<ys.length) (h2 : ∀ j,j<i→ys[j]? = some (c j)) : ∀ j,j<i + 1→(ys.set i (c i))[j]? = some (c j):=by
 intro j hj
 by_cases h : j=i
 ·
  subst h;simp [h1]
 rw [List.getElem?_set_ne (by omega)];exact h2 j (by omega)
noncomputable def cellE (x : Int) (i : Nat) : IEnt:=⟨mt (x + 2 * (i : Int)),x + 2 * (i : Int) + 1⟩
theorem mark_ents (E : List IEnt) (x : Int) (h0 : 0≤x) (hx : x + 2 * E.length≤2305843009213693952) : Eve (fun k => Fk.f k E x) (x + 2 * (E.length : Int),(List.range E.length).map (cellE x)):=by
 simp only [Fk.f];refine ev_loop0 E (fun k (s : List IEnt×Int) i => Fk.l0 k s.1 s.2 i) (fun _ _ _ => (x + 2 * (E.length : Int),(List.range E.length).map (cellE x))) (fun i s => s.1.length=E.length∧s.2=x + 2 * (i : Int) ∧ ∀ j,j<i→s.1[j]? = some (cellE x j)) (fun s hs => ?_) (fun i hi s hs ih => ?_) (E,x) ⟨rfl,by simp,by intro j hj;omega⟩
 ·
  obtain ⟨h1,h2,h3⟩:=hs
  simp only [Fk.l0];exact Eve.ite (fun h => absurd h (by omega)) (fun _ => Eve.one.eq (by rw [h2,filled s.1 _ _ h1 h3]))
 obtain ⟨ys,y⟩:=s;obtain ⟨h1,h2,h3⟩:=hs;simp only at h1 h2 h3;subst h2;have hiy : i<ys.length:=by omega
 have e1 : wrap64 (x + 2 * (i : Int) + 1)=x + 2 * (i : Int) + 1:=w64 (by omega) (by omega);have e2 : wrap64 (x + 2 * (i : Int) + 1 + 1)=x + 2 * ((i + 1 : Nat) : Int):=by rw [w64 (by omega) (by omega)];omega
 simp only [Fk.l0,Option.bind_some,e1,e2,Int.toNat_natCast,wi (show i≤9223372036854775806 by omega)];refine Eve.ite (fun _ => ?_) (fun h => absurd (by omega) h);refine Eve.bind (mt_tells _ (by omega) (by omega)) ?_;refine Eve.ite (fun _ => ?_) (fun h => absurd (by omega) h)
 have e3 : rd_T51 (ys.set i ⟨mt (x + 2 * (i : Int)),(rd_T51 ys (i : Int)).f1⟩) (i : Int)=⟨mt (x + 2 * (i : Int)),(rd_T51 ys (i : Int)).f1⟩:=by
  rw [rdIE _ _ (by simpa using hiy),List.getElem_set_self]
 rw [e3,List.set_set];exact ih (ys.set i (cellE x i),x + 2 * ((i + 1 : Nat) : Int)) ⟨by simpa using h1,rfl,fill_next ys i (cellE x) hiy h3⟩
theorem held_ents (n : Nat) (x : Int) (h0 : 0≤x) (hx : x + 2 * n≤2305843009213693952) : Eve (fun k => Fc.f k ((List.range n).map (cellE x)) x) (x + 2 * (n : Int)):=by
 simp only [Fc.f];have hl : ((List.range n).map (cellE x)).length=n:=by simp
 refine ev_loop0 ((List.range n).map (cellE x)) (fun k (s : Int) i => Fc.l0 k ((List.range n).map (cellE x)) s i) (fun _ _ _ => x + 2 * (n : Int)) (fun i s => s=x + 2 * (i : Int)) (fun s hs => ?_) (fun i hi s hs ih => ?_) x (by simp)
 ·
  simp only [Fc.l0]
  exact Eve.ite (fun h => absurd h (by omega)) (fun _ => Eve.one.eq (by rw [hs,hl]))
 subst hs;rw [hl] at hi;have e1 : wrap64 (x + 2 * (i : Int) + 1)=x + 2 * (i : Int) + 1:=w64 (by omega) (by omega);have e2 : wrap64 (x + 2 * (i : Int) + 1 + 1)=x + 2 * ((i + 1 : Nat) : Int):=by rw [w64 (by omega) (by omega)];omega
 simp only [Fc.l0,e1,e2,rdIE _ _ (show i<((List.range n).map (cellE x)).length by omega),wi (show i≤9223372036854775806 by omega),List.getElem_map,List.getElem_range];refine Eve.ite (fun _ => ?_) (fun h => absurd (by omega) h);refine Eve.ite (fun _ => ?_) (fun h => absurd (by omega) h);refine Eve.bind (mt_tells _ (by omega) (by omega)) ?_;refine Eve.ite (fun _ => ?_) (fun h => absurd rfl h);refine Eve.ite (fun _ => ?_) (fun h => absurd rfl h);exact ih _ rfl
def cellI (x : Int) (i : Nat) : Int:=x + (i : Int)
theorem mark_ints (l : List Int) (x : Int) (h0 : 0≤x) (hx : x + l.length≤2305843009213693952) : Eve (fun k => Fo.f k l x) (x + (l.length : Int),(List.range l.length).map (cellI x)):=by
 simp only [Fo.f];refine ev_loop0 l (fun k (s : List Int×Int) i => Fo.l0 k s.1 s.2 i) (fun _ _ _ => (x + (l.length : Int),(List.range l.length).map (cellI x))) (fun i s => s.1.length=l.length∧s.2=x + (i : Int) ∧ ∀ j,j<i→s.1[j]? = some (cellI x j)) (fun s hs => ?_) (fun i hi s hs ih => ?_) (l,x) ⟨rfl,by simp,by intro j hj;omega⟩
 ·
  obtain ⟨h1,h2,h3⟩:=hs
  simp only [Fo.l0];exact Eve.ite (fun h => absurd h (by omega)) (fun _ => Eve.one.eq (by rw [h2,filled s.1 _ _ h1 h3]))
 obtain ⟨ys,y⟩:=s;obtain ⟨h1,h2,h3⟩:=hs;simp only at h1 h2 h3;subst h2;have e1 : wrap64 (x + (i : Int) + 1)=x + ((i + 1 : Nat) : Int):=by rw [w64 (by omega) (by omega)];omega
 simp only [Fo.l0,e1,Int.toNat_natCast,wi (show i≤9223372036854775806 by omega)];refine Eve.ite (fun _ => ?_) (fun h => absurd (by omega) h);refine Eve.ite (fun _ => ?_) (fun h => absurd (by omega) h);exact ih (ys.set i (cellI x i),x + ((i + 1 : Nat) : Int)) ⟨by simpa using h1,rfl,fill_next ys i (cellI x) (by omega) h3⟩
theorem held_ints (n : Nat) (x : Int) (h0 : 0≤x) (hx : x + n≤2305843009213693952) : Eve (fun k => Fi.f k ((List.range n).map (cellI x)) x) (x + (n : Int)):=by
 simp only [Fi.f];have hl : ((List.range n).map (cellI x)).length=n:=by simp
 refine ev_loop0 ((List.range n).map (cellI x)) (fun k (s : Int) i => Fi.l0 k ((List.range n).map (cellI x)) s i) (fun _ _ _ => x + (n : Int)) (fun i s => s=x + (i : Int)) (fun s hs => ?_) (fun i hi s hs ih => ?_) x (by simp)
 ·
  simp only [Fi.l0]
  exact Eve.ite (fun h => absurd h (by omega)) (fun _ => Eve.one.eq (by rw [hs,hl]))
 subst hs;rw [hl] at hi;have e1 : wrap64 (x + (i : Int) + 1)=x + ((i + 1 : Nat) : Int):=by rw [w64 (by omega) (by omega)];omega
 simp only [Fi.l0,e1,rd_at _ _ (show i<((List.range n).map (cellI x)).length by omega),wi (show i≤9223372036854775806 by omega),List.getElem_map,List.getElem_range];refine Eve.ite (fun _ => ?_) (fun h => absurd (by omega) h);refine Eve.ite (fun _ => ?_) (fun h => absurd (by omega) h);refine Eve.ite (fun _ => ?_) (fun h => absurd rfl h);exact ih _ rfl
theorem eq_ents (E : List IEnt) (h : E.length≤1048576) : Eve (fun k => F8.f k E E) true:=by
 simp only [F8.f,if_true];refine Eve.eq (ev_all E (fun k i => F8.l0 k E E i) (fun _ => true) ?_ (fun i hi v hv => ?_)) (by simp)
 ·
  simp only [F8.l0]
  exact Eve.ite (fun h => absurd h (by omega)) (fun _ => Eve.one)
 simp only [F8.l0,F5.f,rdIE _ _ hi,wi (show i≤9223372036854775806 by omega),if_true,Option.bind_some,Bool.true_and];refine Eve.ite (fun _ => ?_) (fun h => absurd (by omega) h);refine Eve.ite (fun _ => ?_) (fun h => absurd (by omega) h);refine Eve.ite (fun _ => ?_) (fun h => absurd (by omega) h);exact hv
theorem eq_ints (l : List Int) (h : l.length≤1048576) : Eve (fun k => Fa.f k l l) true:=by
 simp only [Fa.f,if_true];refine Eve.eq (ev_all l (fun k i => Fa.l0 k l l i) (fun _ => true) ?_ (fun i hi v hv => ?_)) (by simp)
 ·
  simp only [Fa.l0]
  exact Eve.ite (fun h => absurd h (by omega)) (fun _ => Eve.one)
 simp only [Fa.l0,wi (show i≤9223372036854775806 by omega),if_true,Bool.true_and];refine Eve.ite (fun _ => ?_) (fun h => absurd (by omega) h);refine Eve.ite (fun _ => ?_) (fun h => absurd (by omega) h);refine Eve.ite (fun _ => ?_) (fun h => absurd (by omega) h);exact hv
end Go.Proofs.Ytamikhmpfmgofaa.Pure
end
section
namespace Go.Proofs.Ytamikhmpfmgofaa.Pure
open Go Go.RowKit Go.Proofs.Ytamikhmpfmgofaa.Q Go.Proofs.YtamikhmpfmgofaaW.PrintWords Go.Proofs.YtamikhmpfmgofaaW.PrintLast Go.Proofs.YtamikhmpfmgofaaW.PrintMore Go.Proofs.YtamikhmpfmgofaaW.Pl
theorem map_flat (l : List LPag) : (l.map ip).flatMap (·.f1)=(l.flatMap (·.f1)).map ie:=by
 rw [List.flatMap_map,List.map_flatMap];rfl
theorem place_spec (T : List IPag) (n : Int) (e : IEnt) (hT : T.length≤1048576) (h0 : 0<T.length) : Eve (fun k => Fe.f k T n e.f0 e.f1) (place e 1 0 (T.drop 1)):=by
 simp only [Fe.f]
 have:=ev_loop T (fun k (c : Int) i => Fe.l0 k c i T n e.f0 e.f1) (fun i c r => place e i c r) (fun _ _ => True) (fun c _ => by
  simp only [Fe.l0]
  exact Eve.ite (fun h => absurd h (by omega)) (fun _ => Eve.one)) (fun i hi c hI ih => by
  simp only [Fe.l0];refine Eve.ite (fun _ => ?_) (fun h => absurd (by omega) h);refine Eve.ite (fun _ => ?_) (fun h => absurd (by omega) h);simp only [rdIP _ _ hi,wi (show i≤9223372036854775806 by omega)];refine Eve.ite (fun h => ?_) (fun h => ?_)
  ·
   refine Eve.ite (fun _ => ?_) (fun h => absurd (by omega) h)
   have hl : 0<T[i].f1.length:=by omega
   have hr:=rdIE T[i].f1 0 hl;simp only [show ((0 : Nat) : Int)=0 from rfl] at hr;simp only [hr,less_tells,Option.bind_some];have hc : T[i].f1=T[i].f1[0] :: T[i].f1.drop 1:=drop_at T[i].f1 0 hl;refine Eve.ite (fun h1 => (ih c trivial).eq ?_) (fun h1 => (ih (i : Int) trivial).eq ?_)
   ·
    rw [place,hc];simp only [h1,if_true]
   rw [place,hc];simp only [if_neg h1]
  have hc : T[i].f1=[]:=List.length_eq_zero_iff.1 (by omega)
  exact (ih c trivial).eq (by rw [place,hc])) (T.length - 1) 1 0 (by omega) trivial
 exact this
theorem place_impl (T : List IPag) (n : Int) (e : IEnt) (hT : T.length≤1048576) : Eve (fun k => Fd.f k T n e.f0 e.f1) (place e 0 0 T):=by
 simp only [Fd.f];refine ev_loop0 T (fun k (c : Int) i => Fd.l0 k c T (T.length : Int) i e.f0 e.f1) (fun i c r => place e i c r) (fun _ _ => True) (fun c _ => ?_) (fun i hi c hI ih => ?_) 0 trivial
 ·
  simp only [Fd.l0]
  exact Eve.ite (fun h => absurd h (by omega)) (fun _ => Eve.one)
 simp only [Fd.l0];refine Eve.ite (fun _ => ?_) (fun h => absurd (by omega) h);refine Eve.ite (fun _ => ?_) (fun h => absurd (by omega) h);refine Eve.ite (fun _ => ?_) (fun h => absurd (by omega) h);simp only [rdIP _ _ hi,wi (show i≤9223372036854775806 by omega)];refine Eve.ite (fun h => ?_) (fun h => ?_)
 ·
  refine Eve.ite (fun _ => ?_) (fun h => absurd (by omega) h)
  have hl : 0<T[i].f1.length:=by omega
  have hr:=rdIE T[i].f1 0 hl;simp only [show ((0 : Nat) : Int)=0 from rfl] at hr;simp only [hr];have hc : T[i].f1=T[i].f1[0] :: T[i].f1.drop 1:=drop_at T[i].f1 0 hl;refine Eve.bind (compare_tells _ _) ?_;refine Eve.ite (fun h1 => (ih (i : Int) trivial).eq ?_) (fun h1 => (ih c trivial).eq ?_)
  ·
   rw [place,hc];simp only [if_neg ((ce_le _ _).1 h1)]
  have h2 : el e T[i].f1[0]=true:=by
   by_cases h4 : el e T[i].f1[0]=true
   ·
    exact h4
   exact absurd ((ce_le _ _).2 h4) h1
  rw [place,hc];simp only [h2,if_true]
 have hc : T[i].f1=[]:=List.length_eq_zero_iff.1 (by omega);exact (ih c trivial).eq (by rw [place,hc])
theorem place_from (T : List IPag) (e : IEnt) (h0 : 0<T.length) : place e 0 0 T=place e 1 0 (T.drop 1):=by
 cases T with
 | nil => simp at h0
 | cons p ps =>
  simp only [place,List.drop_one,List.tail_cons]
  cases p.f1 with
  | nil => rfl
  | cons f fs => simp
theorem place_in (e : IEnt) : ∀ (T : List IPag) (i : Nat) (c : Int),0≤c→c<(i + T.length : Nat)→0≤place e i c T∧place e i c T<(i + T.length : Nat)
 | [],i,c,h0,h1 => by simp only [place];exact ⟨h0,h1⟩
 | p :: ps,i,c,h0,h1 => by
  simp only [place,List.length_cons] at *;have e1 : i + 1 + ps.length=i + (ps.length + 1):=by omega
  rw [← e1] at h1 ⊢;apply place_in e ps (i + 1)
  ·
   repeat' split
   all_goals omega
  repeat' split
  all_goals omega
theorem szInterval_tells (a b : ByteArray) (o : Bool) (ha : a.size≤9223372036854775807) (hb : b.size≤9223372036854775807) {left : Int} (h0 : 0≤left) (h1 : left≤1048576) : ∃ r,F09.f a b o left=some r∧(r = -1∨0≤r):=by
 unfold F09.f;rw [w64 (by omega) (by omega)]
 by_cases h : left - (a.size : Int)<0
 ·
  exact ⟨-1,by rw [if_pos h],.inl rfl⟩
 rw [if_neg h,w64 (by omega) (by omega)]
 by_cases h2 : left - (a.size : Int) - (b.size : Int)<0
 ·
  exact ⟨-1,by rw [if_pos h2],.inl rfl⟩
 exact ⟨_,by rw [if_neg h2],.inr (by omega)⟩
def rg (hi : ByteArray) (op : Bool) (first : Bool) (ps : List IPag) : List IPag:=if first=true then ranged hi op ps else taken hi op ps
theorem rg_next (hi : ByteArray) (op : Bool) (first : Bool) (p : IPag) (ps : List IPag) (h : first=true∨stop hi op p=false) : rg hi op first (p :: ps)=p :: taken hi op ps:=by
 unfold rg
 cases first with
 | true => rfl
 | false =>
  rcases h with h|h
  ·
   simp at h
  simp [taken,h]
theorem flat_drop (T : List IPag) (i : Nat) (hi : i<T.length) : ((T.drop i).flatMap (·.f1)).length=T[i].f1.length + ((T.drop (i + 1)).flatMap (·.f1)).length:=by
 rw [drop_at T i hi,List.flatMap_cons,List.length_append]
def fl (lo hi : ByteArray) (op : Bool) (l : List IEnt) : List IEnt:=l.filter (fun e => ihas lo hi op e.f0)
theorem range_spec (T : List IPag) (n : Int) (lo hi : ByteArray) (op : Bool) (hT : T.length≤1048576) (hf : (T.flatMap (·.f1)).length≤1048576) (h0 : 0<T.length) :
  Eve (fun k => F6.f k T n lo hi op) (fl lo hi op ((ranged hi op (T.drop (place ⟨lo,-1⟩ 0 0 T).toNat)).flatMap (·.f1)),(ranged hi op (T.drop (place ⟨lo,-1⟩ 0 0 T).toNat)).map (·.f0)):=by
 simp only [F6.f];have hpl:=place_spec T n ⟨lo,-1⟩ hT h0;rw [← place_from _ _ h0] at hpl;refine Eve.bind hpl ?_;have hin:=place_in ⟨lo,-1⟩ T 0 0 (by omega) (by omega);obtain ⟨b,hb⟩ : ∃ b : Nat,place ⟨lo,-1⟩ 0 0 T=(b : Int):=⟨(place ⟨lo,-1⟩ 0 0 T).toNat,by omega⟩;rw [hb] at hin ⊢;rw [Int.toNat_natCast];have hbl : b<T.length:=by omega
 have hfT : ∀ i,((T.drop i).flatMap (·.f1)).length≤1048576:=fun i => by
  have : T.flatMap (·.f1)=(T.take i).flatMap (·.f1) ++ (T.drop i).flatMap (·.f1):=by
   conv => lhs;rw [← List.take_append_drop i T]
   rw [List.flatMap_append]
  rw [this,List.length_append] at hf
  omega
 have:=ev_loop T (fun k (s : List IEnt×List Int) i => F6.l0 k s.1 s.2 (b : Int) i T n lo hi op)
  (fun i s r => (s.1 ++ fl lo hi op ((rg hi op (decide (i=b)) r).flatMap (·.f1)),s.2 ++ (rg hi op (decide (i=b)) r).map (·.f0)))
  (fun i s => b≤i∧s.1.length + ((T.drop i).flatMap (·.f1)).length≤1048576∧s.2.length≤i) (fun s hs => by
   simp only [F6.l0];refine Eve.ite (fun h => absurd h (by omega)) (fun _ => Eve.one.eq ?_);have : rg hi op (decide (T.length=b)) ([] : List IPag)=[]:=by unfold rg;split <;> rfl
   rw [this];simp [fl]) (fun i hi_ s hs ih => by
   obtain ⟨out,pg⟩:=s;obtain ⟨hbi,hs1,hs2⟩:=hs;simp only at hs1 hs2 ih ⊢;rw [flat_drop T i hi_] at hs1
   have hjf : (decide (i=b)=true∨stop hi op T[i]=false)→Eve (fun k => F6.j1 k out pg (b : Int) (i : Int) T[i].f1 false T n lo hi op) (out ++ fl lo hi op ((rg hi op (decide (i=b)) (T[i] :: T.drop (i + 1))).flatMap (·.f1)),pg ++ (rg hi op (decide (i=b)) (T[i] :: T.drop (i + 1))).map (·.f0)):=fun hst => by
    rw [rg_next hi op _ _ _ hst];refine Eve.succ ?_;simp only [F6.j1,rdIP _ _ hi_];refine Eve.ite (fun h => absurd h (by simp)) (fun _ => ?_);refine Eve.ite (fun _ => ?_) (fun h => absurd (by omega) h);refine Eve.ite (fun _ => ?_) (fun h => absurd (by omega) h);refine Eve.ite (fun _ => ?_) (fun h => absurd (by omega) h);have hl:=ev_loop0 T[i].f1 (fun k (o : List IEnt) j => F6.l1 k o (pg ++ [T[i].f0]) (b : Int) (i : Int) T[i].f1 j T n lo hi op)
     (fun _ o r => (o ++ fl lo hi op r ++ fl lo hi op ((taken hi op (T.drop (i + 1))).flatMap (·.f1)),pg ++ [T[i].f0] ++ (taken hi op (T.drop (i + 1))).map (·.f0)))
     (fun j o => o.length + (T[i].f1.length - j) + ((T.drop (i + 1)).flatMap (·.f1)).length≤1048576) (fun o ho => by
      simp only [F6.l1,wi (show i≤9223372036854775806 by omega)];refine Eve.ite (fun h => absurd h (by omega)) (fun _ => ?_);have hx:=ih (o,pg ++ [T[i].f0]) ⟨by omega,by simp only;omega,by simp only [List.length_append,List.length_singleton];omega⟩;have hne : decide (i + 1=b)=false:=decide_eq_false (by omega);simp only [hne] at hx;refine hx.eq ?_
      simp [rg,fl]) (fun j hj o ho ihj => by
      simp only [F6.l1,rdIE _ _ hj,wi (show j≤9223372036854775806 by have:=hs1;omega)];refine Eve.ite (fun _ => ?_) (fun h => absurd (by omega) h);refine Eve.ite (fun _ => ?_) (fun h => absurd (by omega) h)
      have hh : F0f.f lo hi op T[i].f1[j].f0=some (ihas lo hi op T[i].f1[j].f0):=by
       unfold F0f.f ihas
       split
       ·
        rfl
       split <;> rfl
      rw [hh];simp only [Option.bind_some];refine Eve.ite (fun h => ?_) (fun h => ?_)
      ·
       refine Eve.ite (fun _ => ?_) (fun h => absurd (by omega) h)
       refine (ihj (o ++ [⟨T[i].f1[j].f0,T[i].f1[j].f1⟩]) (by simp only [List.length_append,List.length_singleton];omega)).eq ?_;have e9 : fl lo hi op (T[i].f1[j] :: T[i].f1.drop (j + 1))=T[i].f1[j] :: fl lo hi op (T[i].f1.drop (j + 1)):=by unfold fl;rw [List.filter_cons,if_pos h]
       rw [e9];simp only [List.append_assoc,List.cons_append,List.nil_append]
      refine (ihj o (by omega)).eq ?_;have e9 : fl lo hi op (T[i].f1[j] :: T[i].f1.drop (j + 1))=fl lo hi op (T[i].f1.drop (j + 1)):=by unfold fl;rw [List.filter_cons,if_neg h]
      rw [e9]) out (by omega)
    refine hl.eq ?_;rw [List.flatMap_cons];simp [fl,List.filter_append]
   simp only [F6.l0,rdIP _ _ hi_];refine Eve.ite (fun _ => ?_) (fun h => absurd (by omega) h);refine Eve.ite (fun _ => ?_) (fun h => absurd (by omega) h);refine Eve.ite (fun hgt => ?_) (fun hgt => hjf (.inl (decide_eq_true (by omega))));have hnb : decide (i=b)=false:=decide_eq_false (by omega);refine Eve.ite (fun ho => hjf (.inr (by unfold stop;rw [ho];rfl))) (fun ho => ?_);have ho' : op=false:=by simpa using ho
   refine Eve.ite (fun hl => ?_) (fun hl => hjf (.inr ?_))
   ·
    refine Eve.ite (fun _ => ?_) (fun h => absurd (by omega) h)
    have hl' : 0<T[i].f1.length:=by omega
    have hr:=rdIE T[i].f1 0 hl';simp only [show ((0 : Nat) : Int)=0 from rfl] at hr;simp only [hr];have hc : T[i].f1=T[i].f1[0] :: T[i].f1.drop 1:=drop_at T[i].f1 0 hl'
    have hst : stop hi op T[i] = !Op.bytesLess T[i].f1[0].f0.toList hi.toList:=by
     unfold stop;rw [ho'];generalize hg : T[i].f1[0]=f at hc ⊢;rw [hc];rfl
    rw [← hst]
    cases hq : stop hi op T[i] with
    | false => exact hjf (.inr hq)
    | true =>
     refine Eve.succ ?_;simp only [F6.j1,if_true];refine Eve.one.eq ?_;rw [hnb];simp [rg,taken,hq,fl]
   have hc : T[i].f1=[]:=List.length_eq_zero_iff.1 (by omega)
   unfold stop;rw [hc];simp) (T.length - b) b ([],[]) (by omega) ⟨Nat.le_refl _,by simpa using hfT b,Nat.zero_le _⟩
 refine this.eq ?_;simp [rg]
theorem poks_in (T : List IPag) (n : Int) : ∀ (seen : List Int) (ps : List IPag),poks T n seen ps=true → ∀ p ∈ ps,T.length > 1→0<p.f1.length
 | _,[],_,p,hp,_ => by simp at hp
 | seen,q :: ps,h,p,hp,hl => by
  simp only [poks,Bool.and_eq_true] at h;rcases List.mem_cons.1 hp with rfl|hp
  ·
   have h1:=h.1
   simp only [pok,Bool.and_eq_true,Bool.not_eq_true',Bool.and_eq_false_iff,decide_eq_true_eq,decide_eq_false_iff_not] at h1;have:=h1.2.2.2
   omega
  exact poks_in T n _ ps h.2 p hp hl
theorem range_impl (E : List IEnt) (Y : List IPag) (lo hi : ByteArray) (op : Bool) (hY : Y.length≤1048576) (hne : ∀ j,(h : j<Y.length)→0<j→0<Y[j].f1.length) :
  Eve (fun k => F9.l0 k E ([] : List Int) Y (Y.length : Int) 0 lo hi op) (E,(ranged hi op Y).map (·.f0),0):=by
 have:=ev_loop0 Y (fun k (s : List Int) i => F9.l0 k E s Y (Y.length : Int) i lo hi op) (fun i s r => (E,s ++ (rg hi op (decide (i=0)) r).map (·.f0),(0 : Int))) (fun i s => s.length=i) (fun s hs => by
  simp only [F9.l0];refine Eve.ite (fun h => absurd h (by omega)) (fun _ => Eve.one.eq ?_);have : rg hi op (decide (Y.length=0)) ([] : List IPag)=[]:=by unfold rg;split <;> rfl
  rw [this];simp) (fun i hi_ s hs ih => by
  have hnx : (decide (i=0)=true∨stop hi op Y[i]=false)→Eve (fun k => F9.l0 k E (s ++ [Y[i].f0]) Y (Y.length : Int) ((i + 1 : Nat) : Int) lo hi op) (E,s ++ (rg hi op (decide (i=0)) (Y[i] :: Y.drop (i + 1))).map (·.f0),0):=fun hst => by
   rw [rg_next hi op _ _ _ hst];have hx:=ih (s ++ [Y[i].f0]) (by simp [hs]);have hne0 : decide (i + 1=0)=false:=decide_eq_false (by omega);simp only [hne0] at hx;refine hx.eq ?_;simp [rg]
  simp only [F9.l0,rdIP _ _ hi_,wi (show i≤9223372036854775806 by omega)];refine Eve.ite (fun _ => ?_) (fun h => absurd (by omega) h);refine Eve.ite (fun _ => ?_) (fun h => absurd (by omega) h);refine Eve.ite (fun _ => ?_) (fun h => absurd (by omega) h);refine Eve.ite (fun hgt => ?_) (fun hgt => ?_)
  ·
   refine Eve.ite (fun ho => ?_) (fun ho => ?_)
   ·
    refine Eve.ite (fun _ => ?_) (fun h => absurd (by omega) h)
    exact hnx (.inr (by unfold stop;rw [ho];rfl))
   have ho' : op=false:=by simpa using ho
   have hl' : 0<Y[i].f1.length:=hne i hi_ (by omega);refine Eve.ite (fun _ => ?_) (fun h => absurd (by omega) h);have hr:=rdIE Y[i].f1 0 hl';simp only [show ((0 : Nat) : Int)=0 from rfl] at hr;simp only [hr];have hc : Y[i].f1=Y[i].f1[0] :: Y[i].f1.drop 1:=drop_at Y[i].f1 0 hl'
   have hst : stop hi op Y[i] = !Op.bytesLess Y[i].f1[0].f0.toList hi.toList:=by
    unfold stop;rw [ho'];generalize hg : Y[i].f1[0]=f at hc ⊢;rw [hc];rfl
   refine Eve.ite (fun hb => ?_) (fun hb => Eve.one.eq ?_)
   ·
    refine Eve.ite (fun _ => ?_) (fun h => absurd (by omega) h)
    exact hnx (.inr (by rw [hst,hb];rfl))
   have hs1 : stop hi op Y[i]=true:=by rw [hst];simpa using hb
   have hn0 : decide (i=0)=false:=decide_eq_false (by omega);rw [hn0];simp [rg,taken,hs1]
  refine Eve.ite (fun _ => ?_) (fun h => absurd (by omega) h)
  exact hnx (.inl (decide_eq_true (by omega)))) [] rfl
 refine this.eq ?_;simp [rg]
theorem mark_pages : ∀ (T : List IPag) (a : Int),0≤a→a + (T.length + 2 * (T.flatMap (·.f1)).length)≤2305843009213693952 → ∃ t,Eve (fun k => F03.g k T a) (a + ((T.length : Int) + 2 * ((T.flatMap (·.f1)).length : Int)),t)
 | [],a,_,_ => ⟨[],Eve.one.eq (by simp)⟩
 | p :: ps,a,h0,h1 => by
  rw [List.flatMap_cons,List.length_append,List.length_cons] at h1;have e1 : wrap64 (a + 1)=a + 1:=w64 (by omega) (by omega);have hm:=mark_ents p.f1 (a + 1) (by omega) (by omega);obtain ⟨t,ht⟩:=mark_pages ps (a + 1 + 2 * (p.f1.length : Int)) (by omega) (by omega);refine ⟨(⟨a,(List.range p.f1.length).map (cellE (a + 1))⟩ : IPag) :: t,?_⟩;simp only [F03.g,e1];refine Eve.bind hm ?_;refine Eve.bind ht (Eve.one.eq ?_);rw [List.flatMap_cons,List.length_append,List.length_cons];simp only [Prod.mk.injEq,and_true]
  omega
theorem mark_tree (T : List IPag) (n : Int) (hT : T.length≤1048576) (hf : (T.flatMap (·.f1)).length≤1048576) : Eve (fun k => Fq.f k T n 1) (1 + ((T.length : Int) + 2 * ((T.flatMap (·.f1)).length : Int))):=by
 obtain ⟨t,ht⟩:=mark_pages T 1 (by omega) (by omega);simp only [Fq.f];refine Eve.ite (fun _ => ?_) (fun h => absurd (by omega) h);exact Eve.bind ht Eve.one
theorem FnExactTreeRange : F0.Pure:=by
 rintro ⟨l,n⟩ ⟨lo,hi,op⟩ ⟨hl,hn⟩ ⟨hlo,hhi,_⟩;refine Eve.get (g:=fun k => F0.f k l n lo hi op) ?_;simp only [F0.f];refine Eve.bind (szTree_tells l n hl.1 (good_pages hl) (by omega) (by omega)) ?_
 by_cases h : (1048576 : Int) - szPS l<0
 ·
  simp only [if_pos h];exact Eve.ite (fun _ => Eve.one) (fun h => absurd h (by omega))
 simp only [if_neg h];have hF : Fits l:=by unfold Fits;omega
 have hT : (l.map ip).length≤1048576:=by simpa using hF.len
 have hf : ((l.map ip).flatMap (·.f1)).length≤1048576:=by rw [map_flat];simpa using hF.flat
 have hp : ∀ p ∈ l.map ip,p.f1.length≤1048576:=fun p hp => by
  obtain ⟨q,hq,rfl⟩:=List.mem_map.1 hp
  simpa [ip] using hF.page q hq
 obtain ⟨r2,hr2,_⟩:=szInterval_tells lo hi op hlo hhi (left:=1048576 - szPS l) (by omega) (by omega);simp only [hr2,Option.bind_some]
 by_cases h2 : r2<0
 ·
  simp only [if_pos h2];exact Eve.one
 simp only [if_neg h2];have hto : Fz.f lo hi op=some (lo,hi,op):=rfl;refine Eve.bind (toTree_tells l n hF) ?_;simp only [hto,Option.bind_some]
 obtain ⟨E,N,z,hs,hi2,hE,hN⟩ : ∃ (E : List IEnt) (N : List Int) (z : Int),Eve (fun k => F05.f k (l.map ip) n lo hi op) (E,N,z)∧Eve (fun k => F9.f k (l.map ip) n lo hi op) (E,N,z)∧E.length≤1048576∧N.length≤1048576:=by
  by_cases hk : tok (l.map ip) n=true
  ·
   have hk':=hk
   simp only [tok,inr,Bool.and_eq_true,decide_eq_true_eq] at hk;have h0 : 0<(l.map ip).length:=by omega
   have hin:=place_in ⟨lo,-1⟩ (l.map ip) 0 0 (by omega) (by omega)
   have hmr : ∀ ps : List IPag,(ranged hi op ps).length≤ps.length:=by
    have ht : ∀ ps : List IPag,(taken hi op ps).length≤ps.length:=by
     intro ps
     induction ps with
     | nil => simp [taken]
     | cons p ps ih =>
      unfold taken
      split
      ·
       simp
      simpa using ih
    intro ps
    cases ps with
    | nil => simp [ranged]
    | cons p ps => simpa [ranged] using ht ps
   refine ⟨fl lo hi op ((l.map ip).flatMap (·.f1)),(ranged hi op ((l.map ip).drop (place ⟨lo,-1⟩ 0 0 (l.map ip)).toNat)).map (·.f0),0,?_,?_,?_,?_⟩
   ·
    simp only [F05.f]
    refine Eve.bind (specOK_tells _ n hT hp) ?_;simp only [if_pos hk'];refine Eve.bind (range_spec _ n lo hi op hT hf h0) (Eve.one.eq ?_);have:=range_all (lo:=lo) (hi:=hi) (op:=op) (l.map ip) hk.2.2.2;simp only [fl,this]
   ·
    simp only [F9.f]
    refine Eve.bind (implOK_tells _ n hT hf) ?_;simp only [if_pos hk'];refine Eve.bind (entries_tells _ n hT hf) ?_
    have hd : F7.f ((l.map ip).flatMap (·.f1)) lo hi op=some (fl lo hi op ((l.map ip).flatMap (·.f1))):=by
     unfold F7.f;rw [if_pos (by omega)]
     rfl
    rw [hd];simp only [Option.bind_some];refine Eve.bind (place_impl (l.map ip) n ⟨lo,-1⟩ hT) ?_;refine Eve.ite (fun _ => ?_) (fun h4 => absurd hin.1 h4);refine Eve.ite (fun _ => ?_) (fun h4 => absurd (by omega) h4);refine range_impl _ _ lo hi op (by rw [List.length_drop];omega) (fun j hj h5 => ?_);rw [List.length_drop] at hj;rw [List.getElem_drop];exact poks_in (l.map ip) n [] (l.map ip) hk.2.2.1 _ (List.getElem_mem _) (by omega)
   ·
    exact Nat.le_trans (List.length_filter_le _ _) hf
   rw [List.length_map];refine Nat.le_trans (hmr _) ?_;rw [List.length_drop];omega
  refine ⟨[],[],1,?_,?_,by simp,by simp⟩
  ·
   simp only [F05.f]
   refine Eve.bind (specOK_tells _ n hT hp) ?_;simp only [if_neg hk];exact Eve.one
  simp only [F9.f];refine Eve.bind (implOK_tells _ n hT hf) ?_;simp only [if_neg hk];exact Eve.one
 refine Eve.bind hs ?_;refine Eve.bind (toTree_tells l n hF) ?_;refine Eve.bind hi2 ?_;refine Eve.bind (eq_ents E hE) ?_;simp only [if_true];refine Eve.bind (eq_ints N hN) ?_;simp only [if_true,bne_self_eq_false];refine Eve.succ ?_;simp only [F0.j0,Bool.false_eq_true,if_false];refine Eve.bind (toTree_tells l n hF) ?_;refine Eve.bind (eqTree_to l n hF) ?_;simp only [if_true];refine Eve.bind (mark_tree _ n hT hf) ?_;refine Eve.ite (fun h => absurd h (by omega)) (fun _ => ?_);refine Eve.bind (eq_ents E hE) ?_;simp only [if_true];refine Eve.bind (eq_ints N hN) ?_;simp only [if_true,bne_self_eq_false];refine Eve.succ ?_;simp only [F0.j1,Bool.false_eq_true,if_false];refine Eve.bind (mark_ents E 1 (by omega) (by omega)) ?_;refine Eve.bind (mark_ints N (1 + 2 * (E.length : Int)) (by omega) (by omega)) ?_;refine Eve.bind (held_ents E.length 1 (by omega) (by omega)) ?_;refine Eve.ite (fun h => absurd h (by omega)) (fun _ => ?_);refine Eve.bind (held_ints N.length (1 + 2 * (E.length : Int)) (by omega) (by omega)) ?_;refine Eve.ite (fun h => absurd h (by omega)) (fun _ => ?_);simp only [if_true,hto,Option.bind_some];refine Eve.bind (toTree_tells l n hF) ?_;refine Eve.bind hi2 ?_;refine Eve.bind (eq_ents E hE) ?_;simp only [if_true];refine Eve.bind (eq_ints N hN) ?_;simp only [if_true,bne_self_eq_false];refine Eve.succ ?_;simp only [F0.j2,Bool.false_eq_true,if_false];refine Eve.bind (held_ents E.length 1 (by omega) (by omega)) ?_;refine Eve.ite (fun h => absurd h (by omega)) (fun _ => ?_);refine Eve.bind (held_ints N.length (1 + 2 * (E.length : Int)) (by omega) (by omega)) ?_;refine Eve.ite (fun h => absurd h (by omega)) (fun _ => ?_);simp only [if_true];exact Eve.one
end Go.Proofs.Ytamikhmpfmgofaa.Pure
end
section
namespace Go.Proofs.Ytamikhmpfmgofaa.fnExactTreeRange
open Go.ChangeShapes Go.WideShapes Go.ChangeAt Go.RowKit Go.Proofs.YtamikhmpfmgofaaW.PrintWords Go.Proofs.YtamikhmpfmgofaaW.PrintOpen Go.Proofs.Ytamikhmpfmgofaa.Q
open Go.ChangeMaps (open_string shut_string)
set_option linter.unusedVariables false
theorem own : ownKnob Try.prog.godebug=none:=by kernel_rfl
theorem laidOut : laidOutB Try.prog=true:=by kernel_rfl
set_option maxRecDepth 100000 in
theorem lifted (os : Os) (started : os.Started) (H : Type) (enc : TypeId×Value→H) :
  ReturnsInHanded {} Try.checked os 3 .any (Rows.fnExactTreeRangeSpec.pre6 enc Try.prog Try.f3 Rows.fnExactTreeRangeRow.domain false) (Rows.fnExactTreeRangeSpec.post enc Try.prog Try.f3 false true false false):=by
 refine returnsInHanded_of_change_sized (C:=Try.checked) own started (by kernel_rfl) Try.func3
  (ChangeSpec.witness6 (enc:=enc) (C:=Try.checked) false ⟨#[],#[.agg #[.slice none 0 0,.int .i64 0],.agg #[.string ByteArray.empty,.string ByteArray.empty,.bool false]],[]⟩ 8 (by kernel_rfl) (by kernel_rfl) (by kernel_rfl) (by kernel_rfl)) ?_
 intro W base args ds gs before hval0 hW hcnd hsz0 _
 have hval : ∀ (j : Nat) t v,Try.f3.params[j]? = some t→args[j]? = some v→Value.okWide Try.prog W .any base t v:=hval0
 have hW':=hW
 obtain ⟨p,q,hA0,hV,rfl,hfz,hnd⟩:=hW
 have hA : DataW.TrodAll enc Try.prog W 0 (fun _ => true) true Try.f3.params.toList args.toList ds p:=hA0
 rw [Try.params3] at hA hval
 obtain ⟨v0,vs0,d0,ds0,p0,q0,hargs,rfl,rfl,h0,r0⟩:=trodAll_cons hA
 obtain ⟨v1,vs1,d1,ds1,p1,q1,rfl,rfl,rfl,h1,r1⟩:=trodAll_cons r0
 obtain ⟨rfl,rfl,rfl⟩:=trodAll_nil r1
 obtain rfl : args = #[v0,v1]:=by cases args;simp_all
 obtain ⟨rfl,rfl⟩:=trodVars_none hV
 have t0:=h0
 have lt0 : ∀ x ∈ p0,x.block<W.heap.size:=by obtain ⟨m,hm⟩:=t0;exact DataW.trod_lt m _ _ _ hm
 obtain ⟨x0,cs0,rfl,K0,g0⟩:=arg_struct Try.underlying24 opens24 (hval 0 24 v0 rfl rfl) h0
 obtain ⟨A0_0,c0_0,rfl,hl0_0,hc0_0⟩:=k24_open K0
 have t1:=h1
 have lt1 : ∀ x ∈ p1,x.block<W.heap.size:=by obtain ⟨m,hm⟩:=t1;exact DataW.trod_lt m _ _ _ hm
 obtain ⟨x1,cs1,rfl,K1,g1⟩:=arg_struct Try.underlying26 opens26 (hval 1 26 v1 rfl rfl) h1
 obtain rfl:=k26_open K1
 clear hA0 hval0 hsz0
 obtain ⟨k,hp⟩:=Pure.FnExactTreeRange x0 x1 g0 g1
 refine (F0.calls k A0_0 c0_0 x0.f0 x0.f1 x1.f0 x1.f1 x1.f2 true W hc0_0 hl0_0 hp rfl).mono fun e W' ⟨he,bel0⟩ => ?_
 have bel : Below W.heap.size W W':=bel0
 subst he
 exact ⟨_,rfl,_,_,_,[],_,[],hW',trodAll_mk1 (shut_bool Try.underlying4 _),(trodAll_cons_mk (Below.trod laidOut (by kernel_rfl) (of_decide_eq_true (by kernel_rfl)) t0 bel lt0) (trodAll_cons_mk (Below.trod laidOut (by kernel_rfl) (of_decide_eq_true (by kernel_rfl)) t1 bel lt1) trodAll_mk0)),rfl,bel.frame _,fun h => by cases h⟩
theorem over : Rows.fnExactTreeRangeRow.holds Try.pinned (OpenSpec.ofChange Rows.fnExactTreeRangeSpec) :=
 OpenClaim.holds_of_wide 3 Try.f3 rfl rfl rfl rfl rfl rfl rfl ⟨rfl,rfl,rfl,rfl,rfl⟩ rfl rfl rfl rfl rfl (by kernel_rfl) Try.func3 (by kernel_rfl)
  (of_decide_eq_true (by kernel_rfl)) (by unfold Func.isWrapper;first|(rw [if_pos (by decide +kernel)];kernel_rfl)|(rw [if_neg (by decide +kernel)];exact ⟨rfl,rfl⟩))
  (fun os started H enc _ => lifted os started H enc)
theorem proved : Rows.FnExactTreeRangeSaid:=over
#print axioms proved
end Go.Proofs.Ytamikhmpfmgofaa.fnExactTreeRange
namespace Go.Proofs.Ytamikhmpfmgofaa
theorem fnExactTreeRange_holds : Rows.FnExactTreeRangeSaid:=fnExactTreeRange.proved
end Go.Proofs.Ytamikhmpfmgofaa
end
