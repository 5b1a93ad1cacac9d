/- Texts of this claim, merged by a program of this session. -/
import Derived.Test.YtlljfjpdflcjlaaKLawFnExactSplitKeyp22
import Derived.Test.YtlljfjpdflcjlaaKLawFnExactSplitKeyp12
import Derived.Laws.Entries
section
namespace Go.Proofs.Ytlljfjpdflcjlaa.Q
open Go.RowKit Go.Proofs.YtlljfjpdflcjlaaW.PrintWords Go.Proofs.YtlljfjpdflcjlaaW.PrintLast Go.Proofs.YtlljfjpdflcjlaaW.PrintMore
attribute [local go_sem] max2_int min2_int max_two min_two max_three min_three max_four min_four max2_str min2_str str_geq str_gtr str_leq   -- for this text's walks alone
set_option linter.unusedVariables false
set_option linter.unusedSimpArgs false

def spec_l01Of.l0 : Nat→ByteArray→Int→Int→Option (Int)
 | 0,_,_,_ => none
 | k + 1,x0,x3,x4 => if x4<(x0.size : Int) then (if 0≤x4 then (spec_l01Of.l0 k x0 (wrap64 ((wrap64 (x3 * 256)) + (wrap64 (bt x0 x4)))) (wrap64 (x4 + 1))) else (none)) else (some x3)
def spec_l01Of.f (k : Nat) (a0 : ByteArray) : Option (Int):=spec_l01Of.l0 k a0 0 0
theorem spec_l01Of.mono_l : ∀ k,(∀ y0 y1 y2,LeO (spec_l01Of.l0 k y0 y1 y2) (spec_l01Of.l0 (k + 1) y0 y1 y2))
 | 0 => fun _ _ _ r h => by simp [spec_l01Of.l0] at h
 | k + 1 => by
  have ih0:=spec_l01Of.mono_l k;intro y0 y1 y2;unfold spec_l01Of.l0
  repeat' first|(with_reducible exact ih0 _ _ _)|(with_reducible exact zQ _)|(with_reducible exact zN _)|(with_reducible refine zP ?_ ?_)|(with_reducible refine zO ?_ (fun _ => ?_))|refine zP ?_ ?_|refine zO ?_ (fun _ => ?_)
theorem spec_l01Of.mono : ∀ a0 k,LeO (spec_l01Of.f k a0) (spec_l01Of.f (k + 1) a0):=by
 intro a0 k;have ih0:=spec_l01Of.mono_l k;unfold spec_l01Of.f
 repeat' first|(with_reducible exact ih0 _ _ _)|(with_reducible exact zQ _)|(with_reducible exact zN _)|(with_reducible refine zP ?_ ?_)|(with_reducible refine zO ?_ (fun _ => ?_))|refine zP ?_ ?_|refine zO ?_ (fun _ => ?_)
set_option maxHeartbeats 8000000 in
set_option maxRecDepth 100000 in
theorem spec_l01Of.calls (k : Nat) (a0 : ByteArray) (r : Int) (w : World) (h : spec_l01Of.f k a0=some r) :
  Calls Try.prog 126 #[.string a0] w fun e w' => e = .returned (.int .i64 r)∧Drawn0 w w':=by
 have H : (spec_l01Of.l0 k a0 0 0)=some r:=h;clear h;have H':=zh H;clear H
 go_enter Try.func126,Try.ntmps126
 go_wp2
 go_loopg [3,4] k (fun kq v3 v4 w' => ∃ (x3_1 : Int) (x4_1 : Int),v3 = .int .i64 x3_1∧v4 = .int .i64 x4_1∧Aside0 (spec_l01Of.l0 kq a0 x3_1 x4_1=some r)∧Aside0 (kq≤k)∧Drawn0 w w')
 case atStart => exact ⟨(0),(0),(by first|rfl|(simp;done)|(simp [*];done)),(by first|rfl|(simp;done)|(simp [*];done)),H',⟨ye _⟩,by repeat (first|exact yp _|apply yq)⟩
 case round =>
  clear H'
  try clear c1
  obtain ⟨x3_1,x4_1,rfl,rfl,HA,HK1,⟨m1,rfl⟩⟩:=hrel
  cases gk with
  | zero => exact absurd HA.out (by simp [spec_l01Of.l0])
  | succ k1 =>
   have H:=HA.out;clear HA;simp only [spec_l01Of.l0] at H
   by_cases c2 : x4_1<(a0.size : Int)
   ·
    rw [if_pos c2] at H
    have c2b0 : decide (x4_1<(a0.size : Int))=true:=decide_eq_true c2;clear c2
    by_cases c3 : 0≤x4_1
    ·
     rw [if_pos c3] at H
     have c3b0 : decide (0≤x4_1)=true:=decide_eq_true c3;clear c3;have H':=zh H;clear H;have p4 : 0≤(x4_1 : Int):=zy (by first|(with_reducible assumption)|assumption);have q4 : x4_1<(a0.size : Int):=zy (by first|(with_reducible assumption)|assumption);have hx4:=bt_at a0 x4_1;replace p4:=eq_true p4;replace q4:=eq_true q4
     go_wp2
     go_roundg k1
     case measure => have:=HK1.out;omega
     case rel => exact ⟨(wrap64 ((wrap64 (x3_1 * 256)) + (wrap64 (bt a0 x4_1)))),(wrap64 (x4_1 + 1)),(by first|rfl|(simp;done)|(simp [*];done)),(by first|rfl|(simp;done)|(simp [*];done)),H',⟨by have:=HK1.out;omega⟩,by repeat (first|exact yp _|apply yq)⟩
    rw [if_neg c3] at H;exact absurd H (by simp)
   rw [if_neg c2] at H;have c2b0 : decide (x4_1<(a0.size : Int))=false:=decide_eq_false c2;clear c2;obtain rfl:=zU H
   go_wp2
   go_ret
   exact ⟨by first|rfl|(simp;done)|(simp [*];done),by repeat (first|exact yp _|apply yq)⟩

end Go.Proofs.Ytlljfjpdflcjlaa.Q
end
section
namespace Go.Proofs.Ytlljfjpdflcjlaa.Q
open Go.RowKit Go.Proofs.YtlljfjpdflcjlaaW.PrintWords Go.Proofs.YtlljfjpdflcjlaaW.PrintLast Go.Proofs.YtlljfjpdflcjlaaW.PrintMore
attribute [local go_sem] max2_int min2_int max_two min_two max_three min_three max_four min_four max2_str min2_str str_geq str_gtr str_leq   -- for this text's walks alone
set_option linter.unusedVariables false
set_option linter.unusedSimpArgs false

mutual
def spec_l01Next.j1 : Nat→ByteArray→Int→Int→Int→ByteArray→Option (Int×Int×ByteArray×ByteArray×Bool)
 | 0,_,_,_,_,_ => none
 | k + 1,x0,x6,x231000,x231001,x231002 => if (x0.size : Int)<(wrap64 (1 + x6)) then (some (0,0,(⟨#[]⟩ : ByteArray),(⟨#[]⟩ : ByteArray),false)) else (if x6=1 then (if 1<(x0.size : Int) then (if 0≤(wrap64 (1 + x6)) then (if (wrap64 (1 + x6))≤(x0.size : Int) then (some (x231000,wrap64 (bt x0 1),x231002,x0.extract ((wrap64 (1 + x6)) : Int).toNat x0.size,true)) else (none)) else (none)) else (none)) else (if 1<(x0.size : Int) then (if (bt x0 1) > 127 then (some (0,0,(⟨#[]⟩ : ByteArray),(⟨#[]⟩ : ByteArray),false)) else (if 1≤9 then (if 9≤(x0.size : Int) then ((spec_l01Of.f k (x0.extract 1 9)).bind fun t232 => (if 0≤(wrap64 (1 + x6)) then (if (wrap64 (1 + x6))≤(x0.size : Int) then (some (x231000,wrap64 (t232 - 4611686018427387904),x231002,x0.extract ((wrap64 (1 + x6)) : Int).toNat x0.size,true)) else (none)) else (none))) else (none)) else (none))) else (none)))
def spec_l01Next.j0 : Nat→ByteArray→Bool→Int→Int→ByteArray→Option (Int×Int×ByteArray×ByteArray×Bool)
 | 0,_,_,_,_,_ => none
 | k + 1,x0,x28,x231000,x231001,x231002 => if x28=true then (if (x0.size : Int)<3 then (some (0,0,(⟨#[]⟩ : ByteArray),(⟨#[]⟩ : ByteArray),false)) else (if 1≤3 then (if 3≤(x0.size : Int) then ((spec_l01Of.f k (x0.extract 1 3)).bind fun t231 => (if (x0.size : Int)<(wrap64 (3 + t231)) then (some (0,0,(⟨#[]⟩ : ByteArray),(⟨#[]⟩ : ByteArray),false)) else (if 3≤(wrap64 (3 + t231)) then (if (wrap64 (3 + t231))≤(x0.size : Int) then (if 0≤(wrap64 (3 + t231)) then (some (x231000,x231001,x0.extract 3 ((wrap64 (3 + t231)) : Int).toNat,x0.extract ((wrap64 (3 + t231)) : Int).toNat x0.size,true)) else (none)) else (none)) else (none)))) else (none)) else (none))) else (some (0,0,(⟨#[]⟩ : ByteArray),(⟨#[]⟩ : ByteArray),false))
end
def spec_l01Next.f (k : Nat) (a0 : ByteArray) : Option (Int×Int×ByteArray×ByteArray×Bool):=if (a0.size : Int)=0 then (some (0,0,(⟨#[]⟩ : ByteArray),(⟨#[]⟩ : ByteArray),false)) else (if 0<(a0.size : Int) then (if (wrap64 (bt a0 0))=0 then (if 1≤(a0.size : Int) then (some (wrap64 (bt a0 0),0,(⟨#[]⟩ : ByteArray),a0.extract 1 a0.size,true)) else (none)) else (if (wrap64 (bt a0 0))=1 then (spec_l01Next.j1 k a0 1 (wrap64 (bt a0 0)) 0 (⟨#[]⟩ : ByteArray)) else (if (wrap64 (bt a0 0))=2 then (spec_l01Next.j1 k a0 8 (wrap64 (bt a0 0)) 0 (⟨#[]⟩ : ByteArray)) else (if (wrap64 (bt a0 0))=3 then (spec_l01Next.j0 k a0 ((wrap64 (bt a0 0)) == 3) (wrap64 (bt a0 0)) 0 (⟨#[]⟩ : ByteArray)) else (if (wrap64 (bt a0 0))=4 then (spec_l01Next.j0 k a0 ((wrap64 (bt a0 0)) == 4) (wrap64 (bt a0 0)) 0 (⟨#[]⟩ : ByteArray)) else (spec_l01Next.j0 k a0 ((wrap64 (bt a0 0)) == 5) (wrap64 (bt a0 0)) 0 (⟨#[]⟩ : ByteArray))))))) else (none))
theorem spec_l01Next.mono_l : ∀ k,(∀ y0 y1 y2 y3 y4,LeO (spec_l01Next.j1 k y0 y1 y2 y3 y4) (spec_l01Next.j1 (k + 1) y0 y1 y2 y3 y4))∧(∀ y0 y1 y2 y3 y4,LeO (spec_l01Next.j0 k y0 y1 y2 y3 y4) (spec_l01Next.j0 (k + 1) y0 y1 y2 y3 y4))
 | 0 => ⟨fun _ _ _ _ _ r h => by simp [spec_l01Next.j1] at h,fun _ _ _ _ _ r h => by simp [spec_l01Next.j0] at h⟩
 | k + 1 => by
  obtain ⟨ih0,ih1⟩:=spec_l01Next.mono_l k;refine ⟨?_,?_⟩
  ·
   intro y0 y1 y2 y3 y4
   unfold spec_l01Next.j1
   repeat' first|(with_reducible exact ih0 _ _ _ _ _)|(with_reducible exact ih1 _ _ _ _ _)|(with_reducible exact spec_l01Of.mono _ _)|(with_reducible exact zQ _)|(with_reducible exact zN _)|(with_reducible refine zP ?_ ?_)|(with_reducible refine zO ?_ (fun _ => ?_))|refine zP ?_ ?_|refine zO ?_ (fun _ => ?_)
  intro y0 y1 y2 y3 y4;unfold spec_l01Next.j0
  repeat' first|(with_reducible exact ih0 _ _ _ _ _)|(with_reducible exact ih1 _ _ _ _ _)|(with_reducible exact spec_l01Of.mono _ _)|(with_reducible exact zQ _)|(with_reducible exact zN _)|(with_reducible refine zP ?_ ?_)|(with_reducible refine zO ?_ (fun _ => ?_))|refine zP ?_ ?_|refine zO ?_ (fun _ => ?_)
theorem spec_l01Next.mono : ∀ a0 k,LeO (spec_l01Next.f k a0) (spec_l01Next.f (k + 1) a0):=by
 intro a0 k;obtain ⟨ih0,ih1⟩:=spec_l01Next.mono_l k;unfold spec_l01Next.f
 repeat' first|(with_reducible exact ih0 _ _ _ _ _)|(with_reducible exact ih1 _ _ _ _ _)|(with_reducible exact spec_l01Of.mono _ _)|(with_reducible exact zQ _)|(with_reducible exact zN _)|(with_reducible refine zP ?_ ?_)|(with_reducible refine zO ?_ (fun _ => ?_))|refine zP ?_ ?_|refine zO ?_ (fun _ => ?_)
def spec_l01Next.T22 : Bool×List (List Nat×List Nat):=(true,[([],[]),([],[]),([],[]),([2],[2]),([1,3],[1,3]),([0,0],[0]),([4,5,0,1,2,3,4,5],[4]),([6,0,1,2,3,4,5,6],[])])
def spec_l01Next.B22 : List Nat:=[0,0,0,4,14,1,63,127]
theorem spec_l01Next.tab22 : rtab .any (opsOf Try.f104 22)=spec_l01Next.T22:=by kernel_rfl
theorem spec_l01Next.bits22 : waitsOk spec_l01Next.T22.2 spec_l01Next.B22=true:=by kernel_rfl
def spec_l01Next.T30 : Bool×List (List Nat×List Nat):=(true,[([],[]),([],[]),([],[]),([2],[2]),([1,3],[1,3]),([0,0],[0]),([4,5,0,1,2,3,4,5],[4]),([6,0,1,2,3,4,5,6],[])])
def spec_l01Next.B30 : List Nat:=[0,0,0,4,14,1,63,127]
theorem spec_l01Next.tab30 : rtab .any (opsOf Try.f104 30)=spec_l01Next.T30:=by kernel_rfl
theorem spec_l01Next.bits30 : waitsOk spec_l01Next.T30.2 spec_l01Next.B30=true:=by kernel_rfl
set_option maxHeartbeats 8000000 in
set_option maxRecDepth 100000 in
theorem spec_l01Next.calls (k : Nat) (a0 : ByteArray) (r1 : Int) (r2 : Int) (r3 : ByteArray) (r4 : ByteArray) (r5 : Bool) (w : World) (h : spec_l01Next.f k a0=some (r1,r2,r3,r4,r5)) :
  Calls Try.prog 104 #[.string a0] w fun e w' => e = .returned (.tuple #[.agg #[.int .i64 r1,.int .i64 r2,.string r3],.string r4,.bool r5])∧Below w.heap.size w w':=by
 have hu33:=Try.underlying33;have HB:=zh (Below.refl w.heap.size w);have H : (if (a0.size : Int)=0 then (some (0,0,(⟨#[]⟩ : ByteArray),(⟨#[]⟩ : ByteArray),false)) else (if 0<(a0.size : Int) then (if (wrap64 (bt a0 0))=0 then (if 1≤(a0.size : Int) then (some (wrap64 (bt a0 0),0,(⟨#[]⟩ : ByteArray),a0.extract 1 a0.size,true)) else (none)) else (if (wrap64 (bt a0 0))=1 then (spec_l01Next.j1 k a0 1 (wrap64 (bt a0 0)) 0 (⟨#[]⟩ : ByteArray)) else (if (wrap64 (bt a0 0))=2 then (spec_l01Next.j1 k a0 8 (wrap64 (bt a0 0)) 0 (⟨#[]⟩ : ByteArray)) else (if (wrap64 (bt a0 0))=3 then (spec_l01Next.j0 k a0 ((wrap64 (bt a0 0)) == 3) (wrap64 (bt a0 0)) 0 (⟨#[]⟩ : ByteArray)) else (if (wrap64 (bt a0 0))=4 then (spec_l01Next.j0 k a0 ((wrap64 (bt a0 0)) == 4) (wrap64 (bt a0 0)) 0 (⟨#[]⟩ : ByteArray)) else (spec_l01Next.j0 k a0 ((wrap64 (bt a0 0)) == 5) (wrap64 (bt a0 0)) 0 (⟨#[]⟩ : ByteArray))))))) else (none)))=some (r1,r2,r3,r4,r5):=h;clear h
 by_cases c2 : (a0.size : Int)=0
 ·
  rw [if_pos c2] at H
  have c2b0 : ((a0.size : Int) == 0)=true:=ya.mpr c2;have c2b1 : ((a0.size : Int) != 0)=false:=zX.mpr c2;clear c2;simp only [Option.some.injEq,Prod.mk.injEq] at H;obtain ⟨rfl,rfl,rfl,rfl,rfl⟩:=H
  go_enter Try.func104,Try.ntmps104
  go_wp2_with (first|((with_reducible refine zK (N:=2) rfl ?_);refine zI ?hg (N:=2) ?hd (cs:=#[.int .i64 0,.int .i64 0,.string (⟨#[]⟩ : ByteArray)]) (t:=33) ?hr ?_;(case hd => rfl);(case hg => rfl);(case hr => first|(go_simp;done)|(go_simp;rfl));intro gb229 hg w3 hbox hb;have BK229:=zh (hbox);have GW229:=zh ((by rw [hg];exact (zB (by repeat (with_reducible first|exact HB.out|apply za|apply zb|apply zc))) : w.heap.size≤gb229));have GE229:=zh ((by rw [hg];exact (zB (by repeat (with_reducible first|exact HB.out|apply za|apply zb|apply zc))) : w.heap.size≤gb229));replace HB:=zh (zC (by repeat (with_reducible first|exact HB.out|apply za|apply zb|apply zc)) hb);clear hb hbox hg;have hcz4_0 : w3.cell? ⟨gb229,0,none⟩=some (.int .i64 0):=(zz BK229.out 0).trans rfl;have hcz4_1 : w3.cell? ⟨gb229,1,none⟩=some (.int .i64 0):=(zz BK229.out 1).trans rfl;have hcz4_2 : w3.cell? ⟨gb229,2,none⟩=some (.string (⟨#[]⟩ : ByteArray)):=(zz BK229.out 2).trans rfl;have hfz4_0:=zA BK229.out 0;have hfz4_1:=zA BK229.out 1;have hfz4_2:=zA BK229.out 2))
  refine bodyPost_ret (results_ctt rfl _ _ gb229 33 #[.int .i64 0,.int .i64 0,.string (⟨#[]⟩ : ByteArray)] (0,0) _ rfl (by (with_reducible repeat (first|refine ze ?_ _|refine zf ?_|refine zg ?_ _));refine zL (cs:=#[.int .i64 0,.int .i64 0,.string (⟨#[]⟩ : ByteArray)]) ?_ 2 _ rfl;(with_reducible repeat (first|refine ze ?_ _|refine zf ?_|refine zg ?_ _));refine zL (cs:=#[.int .i64 0,.int .i64 0,.string (⟨#[]⟩ : ByteArray)]) ?_ 1 _ rfl;(with_reducible repeat (first|refine ze ?_ _|refine zf ?_|refine zg ?_ _));refine zL (cs:=#[.int .i64 0,.int .i64 0,.string (⟨#[]⟩ : ByteArray)]) ?_ 0 _ rfl;(with_reducible repeat (first|refine ze ?_ _|refine zf ?_|refine zg ?_ _));exact BK229.out) Try.underlying33 rfl (by kernel_rfl)) rfl ?_;exact ⟨by first|rfl|(simp [yt,yu] <;> rfl)|(simp [*,yt,yu] <;> rfl),by repeat (with_reducible first|exact HB.out|apply za|apply zb|apply zc|refine zd ?_ GE229.out)⟩
 rw [if_neg c2] at H;have c2b0 : ((a0.size : Int) == 0)=false:=zY.mpr c2;have c2b1 : ((a0.size : Int) != 0)=true:=zZ.mpr c2
 by_cases c5 : 0<(a0.size : Int)
 ·
  rw [if_pos c5] at H
  have c5b0 : decide (0<(a0.size : Int))=true:=decide_eq_true c5;have c5b1 : decide (0<a0.size)=true:=decide_eq_true (by omega);clear c5;have HC7:=zh H;clear H
  go_enter Try.func104,Try.ntmps104
  go_upto_block 0 with (first|((with_reducible refine zK (N:=2) rfl ?_);refine zI ?hg (N:=2) ?hd (cs:=#[.int .i64 0,.int .i64 0,.string (⟨#[]⟩ : ByteArray)]) (t:=33) ?hr ?_;(case hd => rfl);(case hg => rfl);(case hr => first|(go_simp;done)|(go_simp;rfl));intro gb229 hg w8 hbox hb;have BK229:=zh (hbox);have GW229:=zh ((by rw [hg];exact (zB (by repeat (with_reducible first|exact HB.out|apply za|apply zb|apply zc))) : w.heap.size≤gb229));have GE229:=zh ((by rw [hg];exact (zB (by repeat (with_reducible first|exact HB.out|apply za|apply zb|apply zc))) : w.heap.size≤gb229));replace HB:=zh (zC (by repeat (with_reducible first|exact HB.out|apply za|apply zb|apply zc)) hb);clear hb hbox hg;have p6 : 0≤(0 : Int):=(by omega);have q6 : 0<a0.size:=(by have : (0 : Int)<(a0.size : Int):=zy (by first|(with_reducible assumption)|assumption);omega);have hx6 : ∀ h : 0<a0.size,((a0[0]'h).toNat : Int)=bt a0 0:=bt_at a0 0;clear p6;have qi6 : (0<(a0.size : Int))=True:=eq_true (zy (by first|(with_reducible assumption)|assumption));replace q6:=eq_true q6)|((with_reducible refine zK (N:=5) rfl ?_);refine zI ?hg (N:=5) ?hd (cs:=#[.int .i64 0,.int .i64 0,.string (⟨#[]⟩ : ByteArray)]) (t:=33) ?hr ?_;(case hd => rfl);(case hg => rfl);(case hr => first|(go_simp;done)|(go_simp;rfl));intro gb230 hg w9 hbox hb;have BK230:=zh (hbox);have GW230:=zh ((by rw [hg];exact (zB (by repeat (with_reducible first|exact HB.out|apply za|apply zb|apply zc|refine zd ?_ GE229.out))) : w.heap.size≤gb230));have GE230:=zh ((by rw [hg];exact (zB (by repeat (with_reducible first|exact HB.out|apply za|apply zb|apply zc|refine zd ?_ GE229.out))) : w.heap.size≤gb230));replace HB:=zh (zC (by repeat (with_reducible first|exact HB.out|apply za|apply zb|apply zc|refine zd ?_ GE229.out)) hb);have NB229_230:=zh ((by rw [hg];exact yc (yi (g:=gb229) (o:=.cells #[.int .i64 0,.int .i64 0,.string (⟨#[]⟩ : ByteArray)] 33 (0,0)) (by (with_reducible repeat (first|refine ze ?_ _|refine zf ?_|refine zg ?_ _));exact BK229.out)) : gb229≠gb230));have NB230_229:=zh ((by rw [hg];exact yd (yi (g:=gb229) (o:=.cells #[.int .i64 0,.int .i64 0,.string (⟨#[]⟩ : ByteArray)] 33 (0,0)) (by (with_reducible repeat (first|refine ze ?_ _|refine zf ?_|refine zg ?_ _));exact BK229.out)) : gb230≠gb229));replace BK229:=zh (zD (g:=gb229) (o:=.cells #[.int .i64 0,.int .i64 0,.string (⟨#[]⟩ : ByteArray)] 33 (0,0)) (by (with_reducible repeat (first|refine ze ?_ _|refine zf ?_|refine zg ?_ _));exact BK229.out) hb);clear hb hbox hg;have hnb10:=NB230_229.out;have hnc10:=NB229_230.out;have hcz11_0 : w9.cell? ⟨gb230,0,none⟩=some (.int .i64 0):=(zz BK230.out 0).trans rfl;have hcz11_1 : w9.cell? ⟨gb230,1,none⟩=some (.int .i64 0):=(zz BK230.out 1).trans rfl;have hcz11_2 : w9.cell? ⟨gb230,2,none⟩=some (.string (⟨#[]⟩ : ByteArray)):=(zz BK230.out 2).trans rfl;have hfz11_0:=zA BK230.out 0;have hfz11_1:=zA BK230.out 1;have hfz11_2:=zA BK230.out 2))
  (try simp only [Act.put,zi,zj,zk])
  go_cut [6] (fun v6 wc => ∃ (kq : Nat) (x6_6 : Int) (x230000_6 : Int) (x230001_6 : Int) (x230002_6 : ByteArray) (x231002_6 : ByteArray),v6 = .int .i64 x6_6∧Aside0 (spec_l01Next.j1 kq a0 x6_6 (wrap64 (bt a0 0)) 0 x231002_6=some (r1,r2,r3,r4,r5))∧Aside0 (kq≤k)∧Aside0 (wc.heap[gb229]? = some (.cells #[.int .i64 x230000_6,.int .i64 x230001_6,.string x230002_6] 33 (0,0)))∧Aside0 (wc.heap[gb230]? = some (.cells #[.int .i64 (wrap64 (bt a0 0)),.int .i64 0,.string x231002_6] 33 (0,0)))∧Aside0 (Below w.heap.size w wc))
  case first =>
   have H:=HC7.out;clear HC7
   by_cases c12 : (wrap64 (bt a0 0))=0
   ·
    rw [if_pos c12] at H
    have c12b0 : ((wrap64 (bt a0 0)) == 0)=true:=ya.mpr c12;have c12b1 : ((wrap64 (bt a0 0)) != 0)=false:=zX.mpr c12;clear c12;(first|rw [c12b0]|(simp only [zG,zH];rw [c12b0])|skip)
    by_cases c13 : 1≤(a0.size : Int)
    ·
     rw [if_pos c13] at H
     have c13b0:=eq_true c13;have c13b1 : decide (1≤(a0.size : Int))=true:=decide_eq_true c13;clear c13;simp only [Option.some.injEq,Prod.mk.injEq] at H;obtain ⟨rfl,rfl,rfl,rfl,rfl⟩:=H
     try go_wp2
     have n0_ : Aside0 ((((w9.setCell ⟨gb230,0,none⟩ (.int .i64 (wrap64 (bt a0 0)))).setCell ⟨gb230,1,none⟩ (.int .i64 0)).setCell ⟨gb230,2,none⟩ (.string (⟨#[]⟩ : ByteArray))).heap[gb229]? = some (.cells #[.int .i64 0,.int .i64 0,.string (⟨#[]⟩ : ByteArray)] 33 (0,0))):=⟨by (with_reducible repeat (first|refine ze ?_ _|refine zf ?_|refine zg ?_ _));refine zS ?_ NB229_230.out _;(with_reducible repeat (first|refine ze ?_ _|refine zf ?_|refine zg ?_ _));refine zS ?_ NB229_230.out _;(with_reducible repeat (first|refine ze ?_ _|refine zf ?_|refine zg ?_ _));refine zS ?_ NB229_230.out _;(with_reducible repeat (first|refine ze ?_ _|refine zf ?_|refine zg ?_ _));exact BK229.out⟩;have n1_ : Aside0 ((((w9.setCell ⟨gb230,0,none⟩ (.int .i64 (wrap64 (bt a0 0)))).setCell ⟨gb230,1,none⟩ (.int .i64 0)).setCell ⟨gb230,2,none⟩ (.string (⟨#[]⟩ : ByteArray))).heap[gb230]? = some (.cells #[.int .i64 (wrap64 (bt a0 0)),.int .i64 0,.string (⟨#[]⟩ : ByteArray)] 33 (0,0))):=⟨by (with_reducible repeat (first|refine ze ?_ _|refine zf ?_|refine zg ?_ _));refine zL (cs:=#[.int .i64 (wrap64 (bt a0 0)),.int .i64 0,.string (⟨#[]⟩ : ByteArray)]) ?_ 2 _ rfl;(with_reducible repeat (first|refine ze ?_ _|refine zf ?_|refine zg ?_ _));refine zL (cs:=#[.int .i64 (wrap64 (bt a0 0)),.int .i64 0,.string (⟨#[]⟩ : ByteArray)]) ?_ 1 _ rfl;(with_reducible repeat (first|refine ze ?_ _|refine zf ?_|refine zg ?_ _));refine zL (cs:=#[.int .i64 0,.int .i64 0,.string (⟨#[]⟩ : ByteArray)]) ?_ 0 _ rfl;(with_reducible repeat (first|refine ze ?_ _|refine zf ?_|refine zg ?_ _));exact BK230.out⟩;have n2_ : Aside0 (Below w.heap.size w (((w9.setCell ⟨gb230,0,none⟩ (.int .i64 (wrap64 (bt a0 0)))).setCell ⟨gb230,1,none⟩ (.int .i64 0)).setCell ⟨gb230,2,none⟩ (.string (⟨#[]⟩ : ByteArray)))):=⟨by repeat (with_reducible first|exact HB.out|apply za|apply zb|apply zc|refine zd ?_ GE229.out|refine zd ?_ GE230.out)⟩;(try clear BK229);(try clear BK230);(try clear HB);generalize (((w9.setCell ⟨gb230,0,none⟩ (.int .i64 (wrap64 (bt a0 0)))).setCell ⟨gb230,1,none⟩ (.int .i64 0)).setCell ⟨gb230,2,none⟩ (.string (⟨#[]⟩ : ByteArray)))=w14 at n0_ n1_ n2_ ⊢;have BK229:=n0_;have BK230:=n1_;have HB:=n2_;clear n0_ n1_ n2_;replace BK229:=zh (zf BK229.out);replace BK230:=zh (zf BK230.out);replace HB:=zh (zc HB.out);refine start_ (n:=6) (S:=fun w' => w'.cell? ⟨gb230,0,none⟩=some (.int .i64 (wrap64 (bt a0 0)))∧w'.cell? ⟨gb230,1,none⟩=some (.int .i64 0)∧w'.cell? ⟨gb230,2,none⟩=some (.string (⟨#[]⟩ : ByteArray))) (ds:=[]) (bm_ 0 6) (by kernel_rfl) rfl rfl ⟨(zz BK230.out 0).trans rfl,(zz BK230.out 1).trans rfl,(zz BK230.out 2).trans rfl⟩ (fun hHeld => ?_);generalize w14.drew=w15 at BK229 BK230 HB hHeld ⊢;refine pure_ (i:=1) (N:=some 22) (v:=?_) (a':=?_) #[false,true,false,false,false,false] rfl rfl (by kernel_rfl) (fun _ _ _ h => h) (Or.inl ⟨by rfl,?_⟩) ?_ ?_;rotate_left
     ·
      intro w'
      go_simp
      with_reducible rfl
     rotate_left
     ·
      simp only [Act.put,zi,zj,zk,zG,zH]
      rfl
     refine pure_ (i:=2) (N:=some 23) (v:=?_) (a':=?_) #[false,true,true,false,false,false] rfl rfl (by kernel_rfl) (fun _ _ _ h => h) (Or.inl ⟨by rfl,?_⟩) ?_ ?_;rotate_left
     ·
      intro w'
      go_simp
      with_reducible rfl
     rotate_left
     ·
      simp only [Act.put,zi,zj,zk,zG,zH]
      rfl
     refine take_ (i:=0) (N:=some 21) (v:=?_) (a':=?_) (bm_ 3 6) rfl rfl (by kernel_rfl) (fun _ _ _ h => h) (Or.inl ⟨by rfl,?_⟩) hHeld ?_ ?_;rotate_left
     ·
      rintro w' ⟨s0,s1,s2⟩
      go_simp
      with_reducible rfl
     rotate_left
     ·
      simp only [Act.put,zi,zj,zk,zG,zH]
      rfl
     refine one_ (i:=3) (N:=none) (bm_ 4 6) rfl rfl (by kernel_rfl) (by decide) (fun K hK => ?_);have hs16 : w15.cell? ⟨gb229,0,none⟩=some (.int .i64 0):=(zz BK229.out 0).trans rfl;have hfs16:=zA BK229.out 0;have hns16_1:=NB230_229.out;have hms16_1:=NB229_230.out;have hs17 : w15.cell? ⟨gb229,1,none⟩=some (.int .i64 0):=(zz BK229.out 1).trans rfl;have hfs17:=zA BK229.out 1;have hns17_1:=NB230_229.out;have hms17_1:=NB229_230.out;have hs18 : w15.cell? ⟨gb229,2,none⟩=some (.string (⟨#[]⟩ : ByteArray)):=(zz BK229.out 2).trans rfl;have hfs18:=zA BK229.out 2;have hns18_1:=NB230_229.out;have hms18_1:=NB229_230.out;refine skip_ (w1:=?_) (by rfl) rfl ?_ ?_;rotate_left
     ·
      go_simp
      rfl
     refine hK.out _ _ ⟨((zR (p:=⟨gb229,_,none⟩) NB230_229.out _).trans (((zR (p:=⟨gb229,_,none⟩) NB230_229.out _).trans (((zR (p:=⟨gb229,_,none⟩) NB230_229.out _).trans (hHeld.1)))))),((zR (p:=⟨gb229,_,none⟩) NB230_229.out _).trans (((zR (p:=⟨gb229,_,none⟩) NB230_229.out _).trans (((zR (p:=⟨gb229,_,none⟩) NB230_229.out _).trans (hHeld.2.1)))))),((zR (p:=⟨gb229,_,none⟩) NB230_229.out _).trans (((zR (p:=⟨gb229,_,none⟩) NB230_229.out _).trans (((zR (p:=⟨gb229,_,none⟩) NB230_229.out _).trans (hHeld.2.2))))))⟩ (fun hHeld => ?_);clear hK K;refine pure_ (i:=4) (N:=some 3) (v:=?_) (a':=?_) (bm_ 5 6) rfl rfl (by kernel_rfl) (fun _ _ _ h => h) (Or.inl ⟨by rfl,?_⟩) ?_ ?_;rotate_left
     ·
      intro w'
      go_simp
      with_reducible rfl
     rotate_left
     ·
      simp only [Act.put,zi,zj,zk,zG,zH]
      rfl
     refine pure_ (i:=5) (N:=some 4) (v:=?_) (a':=?_) (bm_ 6 6) rfl rfl (by kernel_rfl) (fun _ _ _ h => h) (Or.inl ⟨by rfl,?_⟩) ?_ ?_;rotate_left
     ·
      intro w'
      go_simp
      with_reducible rfl
     rotate_left
     ·
      simp only [Act.put,zi,zj,zk,zG,zH]
      rfl
     refine done_ (by kernel_rfl) ?_
     try go_wp2
     refine bodyPost_ret (results_ctt rfl _ _ gb229 33 #[.int .i64 (wrap64 (bt a0 0)),.int .i64 0,.string (⟨#[]⟩ : ByteArray)] (0,0) _ rfl (by (with_reducible repeat (first|refine ze ?_ _|refine zf ?_|refine zg ?_ _));refine zL (cs:=#[.int .i64 (wrap64 (bt a0 0)),.int .i64 0,.string (⟨#[]⟩ : ByteArray)]) ?_ 2 _ rfl;(with_reducible repeat (first|refine ze ?_ _|refine zf ?_|refine zg ?_ _));refine zL (cs:=#[.int .i64 (wrap64 (bt a0 0)),.int .i64 0,.string (⟨#[]⟩ : ByteArray)]) ?_ 1 _ rfl;(with_reducible repeat (first|refine ze ?_ _|refine zf ?_|refine zg ?_ _));refine zL (cs:=#[.int .i64 0,.int .i64 0,.string (⟨#[]⟩ : ByteArray)]) ?_ 0 _ rfl;(with_reducible repeat (first|refine ze ?_ _|refine zf ?_|refine zg ?_ _));exact BK229.out) Try.underlying33 rfl (by kernel_rfl)) rfl ?_;exact ⟨by first|rfl|(simp [yt,yu] <;> rfl)|(simp [*,yt,yu] <;> rfl),by repeat (with_reducible first|exact HB.out|apply za|apply zb|apply zc|refine zd ?_ GE229.out|refine zd ?_ GE230.out)⟩
    rw [if_neg c13] at H;exact absurd H (by simp)
   rw [if_neg c12] at H;have c12b0 : ((wrap64 (bt a0 0)) == 0)=false:=zY.mpr c12;have c12b1 : ((wrap64 (bt a0 0)) != 0)=true:=zZ.mpr c12;(first|rw [c12b0]|(simp only [zG,zH];rw [c12b0])|skip)
   by_cases c19 : (wrap64 (bt a0 0))=1
   ·
    rw [if_pos c19] at H
    have c19b0 : ((wrap64 (bt a0 0)) == 1)=true:=ya.mpr c19;have c19b1 : ((wrap64 (bt a0 0)) != 1)=false:=zX.mpr c19;clear c19;have H':=zh H;clear H
    go_wp2
    go_meet
    case rel => exact ⟨_,(1),(0),(0),((⟨#[]⟩ : ByteArray)),((⟨#[]⟩ : ByteArray)),(by first|rfl|(simp;done)|(simp [*];done)),H',⟨by first|omega|exact ye _⟩,⟨by (with_reducible repeat (first|refine ze ?_ _|refine zf ?_|refine zg ?_ _));refine zS ?_ NB229_230.out _;(with_reducible repeat (first|refine ze ?_ _|refine zf ?_|refine zg ?_ _));refine zS ?_ NB229_230.out _;(with_reducible repeat (first|refine ze ?_ _|refine zf ?_|refine zg ?_ _));refine zS ?_ NB229_230.out _;(with_reducible repeat (first|refine ze ?_ _|refine zf ?_|refine zg ?_ _));exact BK229.out⟩,⟨by (with_reducible repeat (first|refine ze ?_ _|refine zf ?_|refine zg ?_ _));refine zL (cs:=#[.int .i64 (wrap64 (bt a0 0)),.int .i64 0,.string (⟨#[]⟩ : ByteArray)]) ?_ 2 _ rfl;(with_reducible repeat (first|refine ze ?_ _|refine zf ?_|refine zg ?_ _));refine zL (cs:=#[.int .i64 (wrap64 (bt a0 0)),.int .i64 0,.string (⟨#[]⟩ : ByteArray)]) ?_ 1 _ rfl;(with_reducible repeat (first|refine ze ?_ _|refine zf ?_|refine zg ?_ _));refine zL (cs:=#[.int .i64 0,.int .i64 0,.string (⟨#[]⟩ : ByteArray)]) ?_ 0 _ rfl;(with_reducible repeat (first|refine ze ?_ _|refine zf ?_|refine zg ?_ _));exact BK230.out⟩,⟨by repeat (with_reducible first|exact HB.out|apply za|apply zb|apply zc|refine zd ?_ GE229.out|refine zd ?_ GE230.out)⟩⟩
   rw [if_neg c19] at H;have c19b0 : ((wrap64 (bt a0 0)) == 1)=false:=zY.mpr c19;have c19b1 : ((wrap64 (bt a0 0)) != 1)=true:=zZ.mpr c19
   by_cases c20 : (wrap64 (bt a0 0))=2
   ·
    rw [if_pos c20] at H
    have c20b0 : ((wrap64 (bt a0 0)) == 2)=true:=ya.mpr c20;have c20b1 : ((wrap64 (bt a0 0)) != 2)=false:=zX.mpr c20;clear c20;have H':=zh H;clear H
    go_wp2
    go_meet
    case rel => exact ⟨_,(8),(0),(0),((⟨#[]⟩ : ByteArray)),((⟨#[]⟩ : ByteArray)),(by first|rfl|(simp;done)|(simp [*];done)),H',⟨by first|omega|exact ye _⟩,⟨by (with_reducible repeat (first|refine ze ?_ _|refine zf ?_|refine zg ?_ _));refine zS ?_ NB229_230.out _;(with_reducible repeat (first|refine ze ?_ _|refine zf ?_|refine zg ?_ _));refine zS ?_ NB229_230.out _;(with_reducible repeat (first|refine ze ?_ _|refine zf ?_|refine zg ?_ _));refine zS ?_ NB229_230.out _;(with_reducible repeat (first|refine ze ?_ _|refine zf ?_|refine zg ?_ _));exact BK229.out⟩,⟨by (with_reducible repeat (first|refine ze ?_ _|refine zf ?_|refine zg ?_ _));refine zL (cs:=#[.int .i64 (wrap64 (bt a0 0)),.int .i64 0,.string (⟨#[]⟩ : ByteArray)]) ?_ 2 _ rfl;(with_reducible repeat (first|refine ze ?_ _|refine zf ?_|refine zg ?_ _));refine zL (cs:=#[.int .i64 (wrap64 (bt a0 0)),.int .i64 0,.string (⟨#[]⟩ : ByteArray)]) ?_ 1 _ rfl;(with_reducible repeat (first|refine ze ?_ _|refine zf ?_|refine zg ?_ _));refine zL (cs:=#[.int .i64 0,.int .i64 0,.string (⟨#[]⟩ : ByteArray)]) ?_ 0 _ rfl;(with_reducible repeat (first|refine ze ?_ _|refine zf ?_|refine zg ?_ _));exact BK230.out⟩,⟨by repeat (with_reducible first|exact HB.out|apply za|apply zb|apply zc|refine zd ?_ GE229.out|refine zd ?_ GE230.out)⟩⟩
   rw [if_neg c20] at H;have c20b0 : ((wrap64 (bt a0 0)) == 2)=false:=zY.mpr c20;have c20b1 : ((wrap64 (bt a0 0)) != 2)=true:=zZ.mpr c20;have HC21:=zh H;clear H
   go_upto_if 28 with (fail)
   go_cut [28] (fun v28 wc => ∃ (kq : Nat) (x28_20 : Bool),v28 = .bool x28_20∧Aside0 (spec_l01Next.j0 kq a0 x28_20 (wrap64 (bt a0 0)) 0 (⟨#[]⟩ : ByteArray)=some (r1,r2,r3,r4,r5))∧Aside0 (kq≤k)∧Aside0 (wc.heap[gb229]? = some (.cells #[.int .i64 0,.int .i64 0,.string (⟨#[]⟩ : ByteArray)] 33 (0,0)))∧Aside0 (wc.heap[gb230]? = some (.cells #[.int .i64 (wrap64 (bt a0 0)),.int .i64 0,.string (⟨#[]⟩ : ByteArray)] 33 (0,0)))∧Aside0 (Below w.heap.size w wc))
   case first =>
    have H:=HC21.out;clear HC21
    by_cases c22 : (wrap64 (bt a0 0))=3
    ·
     rw [if_pos c22] at H
     have c22b0 : ((wrap64 (bt a0 0)) == 3)=true:=ya.mpr c22;have c22b1 : ((wrap64 (bt a0 0)) != 3)=false:=zX.mpr c22;clear c22;(first|rw [c22b0]|(simp only [zG,zH];rw [c22b0])|skip);have H':=zh H;clear H
     go_wp2
     go_meet
     case rel => exact ⟨_,(((wrap64 (bt a0 0)) == 3)),(by first|rfl|(simp;done)|(simp [*];done)),H',⟨by first|omega|exact ye _⟩,⟨by (with_reducible repeat (first|refine ze ?_ _|refine zf ?_|refine zg ?_ _));refine zS ?_ NB229_230.out _;(with_reducible repeat (first|refine ze ?_ _|refine zf ?_|refine zg ?_ _));refine zS ?_ NB229_230.out _;(with_reducible repeat (first|refine ze ?_ _|refine zf ?_|refine zg ?_ _));refine zS ?_ NB229_230.out _;(with_reducible repeat (first|refine ze ?_ _|refine zf ?_|refine zg ?_ _));exact BK229.out⟩,⟨by (with_reducible repeat (first|refine ze ?_ _|refine zf ?_|refine zg ?_ _));refine zL (cs:=#[.int .i64 (wrap64 (bt a0 0)),.int .i64 0,.string (⟨#[]⟩ : ByteArray)]) ?_ 2 _ rfl;(with_reducible repeat (first|refine ze ?_ _|refine zf ?_|refine zg ?_ _));refine zL (cs:=#[.int .i64 (wrap64 (bt a0 0)),.int .i64 0,.string (⟨#[]⟩ : ByteArray)]) ?_ 1 _ rfl;(with_reducible repeat (first|refine ze ?_ _|refine zf ?_|refine zg ?_ _));refine zL (cs:=#[.int .i64 0,.int .i64 0,.string (⟨#[]⟩ : ByteArray)]) ?_ 0 _ rfl;(with_reducible repeat (first|refine ze ?_ _|refine zf ?_|refine zg ?_ _));exact BK230.out⟩,⟨by repeat (with_reducible first|exact HB.out|apply za|apply zb|apply zc|refine zd ?_ GE229.out|refine zd ?_ GE230.out)⟩⟩
    rw [if_neg c22] at H;have c22b0 : ((wrap64 (bt a0 0)) == 3)=false:=zY.mpr c22;have c22b1 : ((wrap64 (bt a0 0)) != 3)=true:=zZ.mpr c22;(first|rw [c22b0]|(simp only [zG,zH];rw [c22b0])|skip)
    by_cases c23 : (wrap64 (bt a0 0))=4
    ·
     rw [if_pos c23] at H
     have c23b0 : ((wrap64 (bt a0 0)) == 4)=true:=ya.mpr c23;have c23b1 : ((wrap64 (bt a0 0)) != 4)=false:=zX.mpr c23;clear c23;have H':=zh H;clear H
     go_wp2
     go_meet
     case rel => exact ⟨_,(((wrap64 (bt a0 0)) == 4)),(by first|rfl|(simp;done)|(simp [*];done)),H',⟨by first|omega|exact ye _⟩,⟨by (with_reducible repeat (first|refine ze ?_ _|refine zf ?_|refine zg ?_ _));refine zS ?_ NB229_230.out _;(with_reducible repeat (first|refine ze ?_ _|refine zf ?_|refine zg ?_ _));refine zS ?_ NB229_230.out _;(with_reducible repeat (first|refine ze ?_ _|refine zf ?_|refine zg ?_ _));refine zS ?_ NB229_230.out _;(with_reducible repeat (first|refine ze ?_ _|refine zf ?_|refine zg ?_ _));exact BK229.out⟩,⟨by (with_reducible repeat (first|refine ze ?_ _|refine zf ?_|refine zg ?_ _));refine zL (cs:=#[.int .i64 (wrap64 (bt a0 0)),.int .i64 0,.string (⟨#[]⟩ : ByteArray)]) ?_ 2 _ rfl;(with_reducible repeat (first|refine ze ?_ _|refine zf ?_|refine zg ?_ _));refine zL (cs:=#[.int .i64 (wrap64 (bt a0 0)),.int .i64 0,.string (⟨#[]⟩ : ByteArray)]) ?_ 1 _ rfl;(with_reducible repeat (first|refine ze ?_ _|refine zf ?_|refine zg ?_ _));refine zL (cs:=#[.int .i64 0,.int .i64 0,.string (⟨#[]⟩ : ByteArray)]) ?_ 0 _ rfl;(with_reducible repeat (first|refine ze ?_ _|refine zf ?_|refine zg ?_ _));exact BK230.out⟩,⟨by repeat (with_reducible first|exact HB.out|apply za|apply zb|apply zc|refine zd ?_ GE229.out|refine zd ?_ GE230.out)⟩⟩
    rw [if_neg c23] at H;have c23b0 : ((wrap64 (bt a0 0)) == 4)=false:=zY.mpr c23;have c23b1 : ((wrap64 (bt a0 0)) != 4)=true:=zZ.mpr c23;have H':=zh H;clear H
    go_wp2
    go_meet
    case rel => exact ⟨_,(((wrap64 (bt a0 0)) == 5)),(by first|rfl|(simp;done)|(simp [*];done)),H',⟨by first|omega|exact ye _⟩,⟨by (with_reducible repeat (first|refine ze ?_ _|refine zf ?_|refine zg ?_ _));refine zS ?_ NB229_230.out _;(with_reducible repeat (first|refine ze ?_ _|refine zf ?_|refine zg ?_ _));refine zS ?_ NB229_230.out _;(with_reducible repeat (first|refine ze ?_ _|refine zf ?_|refine zg ?_ _));refine zS ?_ NB229_230.out _;(with_reducible repeat (first|refine ze ?_ _|refine zf ?_|refine zg ?_ _));exact BK229.out⟩,⟨by (with_reducible repeat (first|refine ze ?_ _|refine zf ?_|refine zg ?_ _));refine zL (cs:=#[.int .i64 (wrap64 (bt a0 0)),.int .i64 0,.string (⟨#[]⟩ : ByteArray)]) ?_ 2 _ rfl;(with_reducible repeat (first|refine ze ?_ _|refine zf ?_|refine zg ?_ _));refine zL (cs:=#[.int .i64 (wrap64 (bt a0 0)),.int .i64 0,.string (⟨#[]⟩ : ByteArray)]) ?_ 1 _ rfl;(with_reducible repeat (first|refine ze ?_ _|refine zf ?_|refine zg ?_ _));refine zL (cs:=#[.int .i64 0,.int .i64 0,.string (⟨#[]⟩ : ByteArray)]) ?_ 0 _ rfl;(with_reducible repeat (first|refine ze ?_ _|refine zf ?_|refine zg ?_ _));exact BK230.out⟩,⟨by repeat (with_reducible first|exact HB.out|apply za|apply zb|apply zc|refine zd ?_ GE229.out|refine zd ?_ GE230.out)⟩⟩
   case rest =>
    clear HC21
    try clear c1
    try clear c2
    try clear c2b0
    try clear c2b1
    try clear p2
    try clear c5
    try clear c5b0
    try clear c5b1
    try clear p6
    try clear q6
    try clear hx6
    try clear qi6
    try clear c10
    try clear c12
    try clear c12b0
    try clear c12b1
    try clear c13
    try clear c13b0
    try clear c13b1
    try clear c19
    try clear c19b0
    try clear c19b1
    try clear c20
    try clear c20b0
    try clear c20b1
    try clear c22
    try clear c22b0
    try clear c22b1
    try clear c23
    try clear c23b0
    try clear c23b1
    try clear hcz11_0
    try clear hcz11_1
    try clear hcz11_2
    try clear hcz4_0
    try clear hcz4_1
    try clear hcz4_2
    try clear hfz11_0
    try clear hfz11_1
    try clear hfz11_2
    try clear hfz4_0
    try clear hfz4_1
    try clear hfz4_2
    try clear p6
    try clear q6
    obtain ⟨kq,x28_20,rfl,HA,HJ20,BK229,BK230,HB⟩:=hcut
    cases kq with
    | zero => exact absurd HA.out (by simp [spec_l01Next.j0])
    | succ kj20 =>
     have H:=HA.out;clear HA;simp only [spec_l01Next.j0] at H
     by_cases c24 : x28_20=true
     ·
      subst c24
      have H1 : (if (a0.size : Int)<3 then (some (0,0,(⟨#[]⟩ : ByteArray),(⟨#[]⟩ : ByteArray),false)) else (if 1≤3 then (if 3≤(a0.size : Int) then ((spec_l01Of.f kj20 (a0.extract 1 3)).bind fun t231 => (if (a0.size : Int)<(wrap64 (3 + t231)) then (some (0,0,(⟨#[]⟩ : ByteArray),(⟨#[]⟩ : ByteArray),false)) else (if 3≤(wrap64 (3 + t231)) then (if (wrap64 (3 + t231))≤(a0.size : Int) then (if 0≤(wrap64 (3 + t231)) then (some ((wrap64 (bt a0 0)),0,a0.extract 3 ((wrap64 (3 + t231)) : Int).toNat,a0.extract ((wrap64 (3 + t231)) : Int).toNat a0.size,true)) else (none)) else (none)) else (none)))) else (none)) else (none)))=some (r1,r2,r3,r4,r5):=by rw [if_pos rfl] at H;exact H
      clear H;have H:=H1;clear H1
      by_cases c25 : (a0.size : Int)<3
      ·
       rw [if_pos c25] at H
       have c25b0 : decide ((a0.size : Int)<3)=true:=decide_eq_true c25;have c25b1 : decide (a0.size<3)=true:=decide_eq_true (by omega);clear c25;simp only [Option.some.injEq,Prod.mk.injEq] at H;obtain ⟨rfl,rfl,rfl,rfl,rfl⟩:=H;have hnb26:=NB229_230.out;have hnc26:=NB230_229.out;have hcz27_0 : wc.cell? ⟨gb229,0,none⟩=some (.int .i64 0):=(zz BK229.out 0).trans rfl;have hcz27_1 : wc.cell? ⟨gb229,1,none⟩=some (.int .i64 0):=(zz BK229.out 1).trans rfl;have hcz27_2 : wc.cell? ⟨gb229,2,none⟩=some (.string (⟨#[]⟩ : ByteArray)):=(zz BK229.out 2).trans rfl;have hfz27_0:=zA BK229.out 0;have hfz27_1:=zA BK229.out 1;have hfz27_2:=zA BK229.out 2
       go_wp2
       refine bodyPost_ret (results_ctt rfl _ _ gb229 33 #[.int .i64 0,.int .i64 0,.string (⟨#[]⟩ : ByteArray)] (0,0) _ rfl (by (with_reducible repeat (first|refine ze ?_ _|refine zf ?_|refine zg ?_ _));refine zL (cs:=#[.int .i64 0,.int .i64 0,.string (⟨#[]⟩ : ByteArray)]) ?_ 2 _ rfl;(with_reducible repeat (first|refine ze ?_ _|refine zf ?_|refine zg ?_ _));refine zL (cs:=#[.int .i64 0,.int .i64 0,.string (⟨#[]⟩ : ByteArray)]) ?_ 1 _ rfl;(with_reducible repeat (first|refine ze ?_ _|refine zf ?_|refine zg ?_ _));refine zL (cs:=#[.int .i64 0,.int .i64 0,.string (⟨#[]⟩ : ByteArray)]) ?_ 0 _ rfl;(with_reducible repeat (first|refine ze ?_ _|refine zf ?_|refine zg ?_ _));exact BK229.out) Try.underlying33 rfl (by kernel_rfl)) rfl ?_;exact ⟨by first|rfl|(simp [yt,yu] <;> rfl)|(simp [*,yt,yu] <;> rfl),by repeat (with_reducible first|exact HB.out|apply za|apply zb|apply zc|refine zd ?_ GE229.out|refine zd ?_ GE230.out)⟩
      rw [if_neg c25] at H;have c25b0 : decide ((a0.size : Int)<3)=false:=decide_eq_false c25;have c25b1 : decide (a0.size<3)=false:=decide_eq_false (by omega);clear c25
      by_cases c28 : 1≤3
      ·
       rw [if_pos c28] at H
       have c28b0:=eq_true c28;have c28b1 : decide (1≤3)=true:=decide_eq_true c28;clear c28
       by_cases c29 : 3≤(a0.size : Int)
       ·
        rw [if_pos c29] at H
        have c29b0:=eq_true c29;have c29b1 : decide (3≤(a0.size : Int))=true:=decide_eq_true c29;clear c29;replace H:=zT.mp H;obtain ⟨t231,A300,H⟩:=H;replace H : (if (a0.size : Int)<(wrap64 (3 + t231)) then (some (0,0,(⟨#[]⟩ : ByteArray),(⟨#[]⟩ : ByteArray),false)) else (if 3≤(wrap64 (3 + t231)) then (if (wrap64 (3 + t231))≤(a0.size : Int) then (if 0≤(wrap64 (3 + t231)) then (some ((wrap64 (bt a0 0)),0,a0.extract 3 ((wrap64 (3 + t231)) : Int).toNat,a0.extract ((wrap64 (3 + t231)) : Int).toNat a0.size,true)) else (none)) else (none)) else (none)))=some (r1,r2,r3,r4,r5):=H;have A30:=zh A300;clear A300
        by_cases c31 : (a0.size : Int)<(wrap64 (3 + t231))
        ·
         rw [if_pos c31] at H
         have c31b0 : decide ((a0.size : Int)<(wrap64 (3 + t231)))=true:=decide_eq_true c31;clear c31;simp only [Option.some.injEq,Prod.mk.injEq] at H;obtain ⟨rfl,rfl,rfl,rfl,rfl⟩:=H
         go_wp2_with (first|((with_reducible refine zJ (f:=126) rfl ?_);refine yj (some 38) rfl rfl Try.func126 (by kernel_rfl) rfl #[.string (a0.extract 1 3)] rfl (by (try simp only [zt,zu,zv]);first|done|rfl|(simp only [zw,zx];rfl)|(simp only [yr,ys,zV,zW];rfl)) ?_;(with_reducible refine (spec_l01Of.calls kj20  (a0.extract 1 3) t231 _ A30.out).mono ?_);rintro e w' ⟨rfl,⟨nd,rfl⟩⟩;refine ⟨_,rfl,?_⟩;(try (rw [drewN_self wc];generalize hq_ : World.drewN wc _=wc;replace BK229 : Aside0 (wc.heap[gb229]? = some (.cells #[.int .i64 0,.int .i64 0,.string (⟨#[]⟩ : ByteArray)] 33 (0,0))):=⟨by rw [← hq_];exact (by (with_reducible repeat (first|refine ze ?_ _|refine zf ?_|refine zg ?_ _));exact BK229.out)⟩;replace BK230 : Aside0 (wc.heap[gb230]? = some (.cells #[.int .i64 (wrap64 (bt a0 0)),.int .i64 0,.string (⟨#[]⟩ : ByteArray)] 33 (0,0))):=⟨by rw [← hq_];exact (by (with_reducible repeat (first|refine ze ?_ _|refine zf ?_|refine zg ?_ _));exact BK230.out)⟩;replace HB : Aside0 (Below w.heap.size w wc):=⟨by rw [← hq_];exact (by repeat (with_reducible first|exact HB.out|apply za|apply zb|apply zc|refine zd ?_ GE229.out|refine zd ?_ GE230.out))⟩;clear hq_));have hnb32:=NB229_230.out;have hnc32:=NB230_229.out;have hcz33_0 : wc.cell? ⟨gb229,0,none⟩=some (.int .i64 0):=(zz BK229.out 0).trans rfl;have hcz33_1 : wc.cell? ⟨gb229,1,none⟩=some (.int .i64 0):=(zz BK229.out 1).trans rfl;have hcz33_2 : wc.cell? ⟨gb229,2,none⟩=some (.string (⟨#[]⟩ : ByteArray)):=(zz BK229.out 2).trans rfl;have hfz33_0:=zA BK229.out 0;have hfz33_1:=zA BK229.out 1;have hfz33_2:=zA BK229.out 2))
         refine bodyPost_ret (results_ctt rfl _ _ gb229 33 #[.int .i64 0,.int .i64 0,.string (⟨#[]⟩ : ByteArray)] (0,0) _ rfl (by (with_reducible repeat (first|refine ze ?_ _|refine zf ?_|refine zg ?_ _));refine zL (cs:=#[.int .i64 0,.int .i64 0,.string (⟨#[]⟩ : ByteArray)]) ?_ 2 _ rfl;(with_reducible repeat (first|refine ze ?_ _|refine zf ?_|refine zg ?_ _));refine zL (cs:=#[.int .i64 0,.int .i64 0,.string (⟨#[]⟩ : ByteArray)]) ?_ 1 _ rfl;(with_reducible repeat (first|refine ze ?_ _|refine zf ?_|refine zg ?_ _));refine zL (cs:=#[.int .i64 0,.int .i64 0,.string (⟨#[]⟩ : ByteArray)]) ?_ 0 _ rfl;(with_reducible repeat (first|refine ze ?_ _|refine zf ?_|refine zg ?_ _));exact BK229.out) Try.underlying33 rfl (by kernel_rfl)) rfl ?_;exact ⟨by first|rfl|(simp [yt,yu] <;> rfl)|(simp [*,yt,yu] <;> rfl),by repeat (with_reducible first|exact HB.out|apply za|apply zb|apply zc|refine zd ?_ GE229.out|refine zd ?_ GE230.out)⟩
        rw [if_neg c31] at H;have c31b0 : decide ((a0.size : Int)<(wrap64 (3 + t231)))=false:=decide_eq_false c31;clear c31
        by_cases c34 : 3≤(wrap64 (3 + t231))
        ·
         rw [if_pos c34] at H
         have c34b0:=eq_true c34;have c34b1 : decide (3≤(wrap64 (3 + t231)))=true:=decide_eq_true c34
         by_cases c35 : (wrap64 (3 + t231))≤(a0.size : Int)
         ·
          rw [if_pos c35] at H
          have c35b0:=eq_true c35;have c35b1 : decide ((wrap64 (3 + t231))≤(a0.size : Int))=true:=decide_eq_true c35;obtain ⟨ji36,hji36⟩ : ∃ j_ : Int,(wrap64 (3 + t231))=j_:=⟨_,rfl⟩;replace H : (if 0≤(ji36) then (some ((wrap64 (bt a0 0)),0,a0.extract 3 ((ji36) : Int).toNat,a0.extract ((ji36) : Int).toNat a0.size,true)) else (none))=some (r1,r2,r3,r4,r5):=by first|(rw [hji36] at H;exact H)|(simp only [hji36] at H ⊢;exact H)
          (try rw [hji36] at c31b0);(try rw [hji36] at c34b0);(try rw [hji36] at c34b1);(try rw [hji36] at c34);(try rw [hji36] at c35b0);(try rw [hji36] at c35b1);(try rw [hji36] at c35);(try rw [hji36] at A30);have hji36w : (IntKind.i64.wrap (3 + t231))=ji36:=(zG _).trans hji36
          by_cases c37 : 0≤(ji36)
          ·
           rw [if_pos c37] at H
           have c37b0:=eq_true c37;have c37b1 : decide (0≤(ji36))=true:=decide_eq_true c37;clear c37;have c38b0:=eq_true (zy (by first|(with_reducible assumption)|assumption) : (ji36)≤(a0.size : Int));simp only [Option.some.injEq,Prod.mk.injEq] at H;obtain ⟨rfl,rfl,rfl,rfl,rfl⟩:=H
           try go_wp2_with (first|((with_reducible refine zJ (f:=126) rfl ?_);refine yj (some 38) rfl rfl Try.func126 (by kernel_rfl) rfl #[.string (a0.extract 1 3)] rfl (by (try simp only [zt,zu,zv]);first|done|rfl|(simp only [zw,zx];rfl)|(simp only [yr,ys,zV,zW];rfl)) ?_;(with_reducible refine (spec_l01Of.calls kj20  (a0.extract 1 3) t231 _ A30.out).mono ?_);rintro e w' ⟨rfl,⟨nd,rfl⟩⟩;refine ⟨_,rfl,?_⟩;(try (rw [drewN_self wc];generalize hq_ : World.drewN wc _=wc;replace BK229 : Aside0 (wc.heap[gb229]? = some (.cells #[.int .i64 0,.int .i64 0,.string (⟨#[]⟩ : ByteArray)] 33 (0,0))):=⟨by rw [← hq_];exact (by (with_reducible repeat (first|refine ze ?_ _|refine zf ?_|refine zg ?_ _));exact BK229.out)⟩;replace BK230 : Aside0 (wc.heap[gb230]? = some (.cells #[.int .i64 (wrap64 (bt a0 0)),.int .i64 0,.string (⟨#[]⟩ : ByteArray)] 33 (0,0))):=⟨by rw [← hq_];exact (by (with_reducible repeat (first|refine ze ?_ _|refine zf ?_|refine zg ?_ _));exact BK230.out)⟩;replace HB : Aside0 (Below w.heap.size w wc):=⟨by rw [← hq_];exact (by repeat (with_reducible first|exact HB.out|apply za|apply zb|apply zc|refine zd ?_ GE229.out|refine zd ?_ GE230.out))⟩;clear hq_));have hnb39:=NB230_229.out;have hnc39:=NB229_230.out;have hcz40_0 : wc.cell? ⟨gb230,0,none⟩=some (.int .i64 (wrap64 (bt a0 0))):=(zz BK230.out 0).trans rfl;have hcz40_1 : wc.cell? ⟨gb230,1,none⟩=some (.int .i64 0):=(zz BK230.out 1).trans rfl;have hcz40_2 : wc.cell? ⟨gb230,2,none⟩=some (.string (⟨#[]⟩ : ByteArray)):=(zz BK230.out 2).trans rfl;have hfz40_0:=zA BK230.out 0;have hfz40_1:=zA BK230.out 1;have hfz40_2:=zA BK230.out 2))
           have n0_ : Aside0 ((wc.setCell ⟨gb230,2,none⟩ (.string (a0.extract 3 ((ji36) : Int).toNat))).heap[gb229]? = some (.cells #[.int .i64 0,.int .i64 0,.string (⟨#[]⟩ : ByteArray)] 33 (0,0))):=⟨by (with_reducible repeat (first|refine ze ?_ _|refine zf ?_|refine zg ?_ _));refine zS ?_ NB229_230.out _;(with_reducible repeat (first|refine ze ?_ _|refine zf ?_|refine zg ?_ _));exact BK229.out⟩;have n1_ : Aside0 ((wc.setCell ⟨gb230,2,none⟩ (.string (a0.extract 3 ((ji36) : Int).toNat))).heap[gb230]? = some (.cells #[.int .i64 (wrap64 (bt a0 0)),.int .i64 0,.string (a0.extract 3 ((ji36) : Int).toNat)] 33 (0,0))):=⟨by (with_reducible repeat (first|refine ze ?_ _|refine zf ?_|refine zg ?_ _));refine zL (cs:=#[.int .i64 (wrap64 (bt a0 0)),.int .i64 0,.string (⟨#[]⟩ : ByteArray)]) ?_ 2 _ rfl;(with_reducible repeat (first|refine ze ?_ _|refine zf ?_|refine zg ?_ _));exact BK230.out⟩;have n2_ : Aside0 (Below w.heap.size w (wc.setCell ⟨gb230,2,none⟩ (.string (a0.extract 3 ((ji36) : Int).toNat)))):=⟨by repeat (with_reducible first|exact HB.out|apply za|apply zb|apply zc|refine zd ?_ GE229.out|refine zd ?_ GE230.out)⟩;(try clear BK229);(try clear BK230);(try clear HB);generalize (wc.setCell ⟨gb230,2,none⟩ (.string (a0.extract 3 ((ji36) : Int).toNat)))=w41 at n0_ n1_ n2_ ⊢;have BK229:=n0_;have BK230:=n1_;have HB:=n2_;clear n0_ n1_ n2_;replace BK229:=zh (zf BK229.out);replace BK230:=zh (zf BK230.out);replace HB:=zh (zc HB.out);refine start_ (n:=8) (S:=fun w' => w'.cell? ⟨gb230,0,none⟩=some (.int .i64 (wrap64 (bt a0 0)))∧w'.cell? ⟨gb230,1,none⟩=some (.int .i64 0)∧w'.cell? ⟨gb230,2,none⟩=some (.string (a0.extract 3 ((ji36) : Int).toNat))) (ds:=[]) (bm_ 0 8) (by kernel_rfl) rfl rfl ⟨(zz BK230.out 0).trans rfl,(zz BK230.out 1).trans rfl,(zz BK230.out 2).trans rfl⟩ (fun hHeld => ?_);refine with_tabW spec_l01Next.tab22 spec_l01Next.bits22 (fun HT_ HW_ => ?_);generalize w41.drew=w42 at BK229 BK230 HB hHeld ⊢;refine pure_ (i:=1) (N:=some 51) (v:=?_) (a':=?_) #[false,true,false,false,false,false,false,false] rfl rfl (any_of HT_.out (by kernel_rfl)) (fun _ _ _ h => h) (Or.inl ⟨by rfl,?_⟩) ?_ ?_;rotate_left
           ·
            intro w'
            go_simp
            with_reducible rfl
           rotate_left
           ·
            simp only [Act.put,zi,zj,zk,zG,zH]
            rfl
           refine pure_ (i:=2) (N:=some 52) (v:=?_) (a':=?_) #[false,true,true,false,false,false,false,false] rfl rfl (any_of HT_.out (by kernel_rfl)) (fun _ _ _ h => h) (Or.inl ⟨by rfl,?_⟩) ?_ ?_;rotate_left
           ·
            intro w'
            go_simp
            with_reducible rfl
           rotate_left
           ·
            simp only [Act.put,zi,zj,zk,zG,zH]
            rfl
           refine pure_ (i:=3) (N:=some 53) (v:=?_) (a':=?_) #[false,true,true,true,false,false,false,false] rfl rfl (any_of HT_.out (by kernel_rfl)) (fun _ _ _ h => h) (Or.inl ⟨by rfl,?_⟩) ?_ ?_;rotate_left
           ·
            intro w'
            go_simp
            with_reducible rfl
           rotate_left
           ·
            simp only [Act.put,zi,zj,zk,zG,zH]
            rfl
           refine pure_ (i:=4) (N:=some 54) (v:=?_) (a':=?_) #[false,true,true,true,true,false,false,false] rfl rfl (any_of HT_.out (by kernel_rfl)) (fun _ _ _ h => h) (Or.inl ⟨by rfl,?_⟩) ?_ ?_;rotate_left
           ·
            intro w'
            go_simp
            with_reducible rfl
           rotate_left
           ·
            simp only [Act.put,zi,zj,zk,zG,zH]
            rfl
           refine take_ (i:=0) (N:=some 50) (v:=?_) (a':=?_) (bm_ 5 8) rfl rfl (yo HT_.out HW_.out (by kernel_rfl)) (fun _ _ _ h => h) (Or.inl ⟨by rfl,?_⟩) hHeld ?_ ?_;rotate_left
           ·
            rintro w' ⟨s0,s1,s2⟩
            go_simp
            with_reducible rfl
           rotate_left
           ·
            simp only [Act.put,zi,zj,zk,zG,zH]
            rfl
           refine one_ (i:=5) (N:=none) (bm_ 6 8) rfl rfl (one_of HT_.out (by kernel_rfl)) (by decide) (fun K hK => ?_);have hs43 : w42.cell? ⟨gb229,0,none⟩=some (.int .i64 0):=(zz BK229.out 0).trans rfl;have hfs43:=zA BK229.out 0;have hns43_1:=NB230_229.out;have hms43_1:=NB229_230.out;have hs44 : w42.cell? ⟨gb229,1,none⟩=some (.int .i64 0):=(zz BK229.out 1).trans rfl;have hfs44:=zA BK229.out 1;have hns44_1:=NB230_229.out;have hms44_1:=NB229_230.out;have hs45 : w42.cell? ⟨gb229,2,none⟩=some (.string (⟨#[]⟩ : ByteArray)):=(zz BK229.out 2).trans rfl;have hfs45:=zA BK229.out 2;have hns45_1:=NB230_229.out;have hms45_1:=NB229_230.out;refine skip_ (w1:=?_) (by rfl) rfl ?_ ?_;rotate_left
           ·
            go_simp
            rfl
           refine hK.out _ _ ⟨((zR (p:=⟨gb229,_,none⟩) NB230_229.out _).trans (((zR (p:=⟨gb229,_,none⟩) NB230_229.out _).trans (((zR (p:=⟨gb229,_,none⟩) NB230_229.out _).trans (hHeld.1)))))),((zR (p:=⟨gb229,_,none⟩) NB230_229.out _).trans (((zR (p:=⟨gb229,_,none⟩) NB230_229.out _).trans (((zR (p:=⟨gb229,_,none⟩) NB230_229.out _).trans (hHeld.2.1)))))),((zR (p:=⟨gb229,_,none⟩) NB230_229.out _).trans (((zR (p:=⟨gb229,_,none⟩) NB230_229.out _).trans (((zR (p:=⟨gb229,_,none⟩) NB230_229.out _).trans (hHeld.2.2))))))⟩ (fun hHeld => ?_);clear hK K;refine pure_ (i:=6) (N:=some 3) (v:=?_) (a':=?_) (bm_ 7 8) rfl rfl (any_of HT_.out (by kernel_rfl)) (fun _ _ _ h => h) (Or.inl ⟨by rfl,?_⟩) ?_ ?_;rotate_left
           ·
            intro w'
            go_simp
            with_reducible rfl
           rotate_left
           ·
            simp only [Act.put,zi,zj,zk,zG,zH]
            rfl
           refine pure_ (i:=7) (N:=some 4) (v:=?_) (a':=?_) (bm_ 8 8) rfl rfl (any_of HT_.out (by kernel_rfl)) (fun _ _ _ h => h) (Or.inl ⟨by rfl,?_⟩) ?_ ?_;rotate_left
           ·
            intro w'
            go_simp
            with_reducible rfl
           rotate_left
           ·
            simp only [Act.put,zi,zj,zk,zG,zH]
            rfl
           refine done_ (done_of HT_.out (by kernel_rfl)) ?_
           try go_wp2
           refine bodyPost_ret (results_ctt rfl _ _ gb229 33 #[.int .i64 (wrap64 (bt a0 0)),.int .i64 0,.string (a0.extract 3 ((ji36) : Int).toNat)] (0,0) _ rfl (by (with_reducible repeat (first|refine ze ?_ _|refine zf ?_|refine zg ?_ _));refine zL (cs:=#[.int .i64 (wrap64 (bt a0 0)),.int .i64 0,.string (⟨#[]⟩ : ByteArray)]) ?_ 2 _ rfl;(with_reducible repeat (first|refine ze ?_ _|refine zf ?_|refine zg ?_ _));refine zL (cs:=#[.int .i64 (wrap64 (bt a0 0)),.int .i64 0,.string (⟨#[]⟩ : ByteArray)]) ?_ 1 _ rfl;(with_reducible repeat (first|refine ze ?_ _|refine zf ?_|refine zg ?_ _));refine zL (cs:=#[.int .i64 0,.int .i64 0,.string (⟨#[]⟩ : ByteArray)]) ?_ 0 _ rfl;(with_reducible repeat (first|refine ze ?_ _|refine zf ?_|refine zg ?_ _));exact BK229.out) Try.underlying33 rfl (by kernel_rfl)) rfl ?_;exact ⟨by first|rfl|(simp [yt,yu] <;> rfl)|(simp only [← hji36];first|rfl|(simp [yt,yu] <;> rfl))|(simp [*,yt,yu] <;> rfl),by repeat (with_reducible first|exact HB.out|apply za|apply zb|apply zc|refine zd ?_ GE229.out|refine zd ?_ GE230.out)⟩
          rw [if_neg c37] at H;exact absurd H (by simp)
         rw [if_neg c35] at H;exact absurd H (by simp)
        rw [if_neg c34] at H;exact absurd H (by simp)
       rw [if_neg c29] at H;exact absurd H (by simp)
      rw [if_neg c28] at H;exact absurd H (by simp)
     replace c24:=yb.mpr c24;subst c24;have H1 : (some (0,0,(⟨#[]⟩ : ByteArray),(⟨#[]⟩ : ByteArray),false))=some (r1,r2,r3,r4,r5):=by rw [if_neg (show ¬ (false=true) by decide)] at H;exact H
     clear H;have H:=H1;clear H1;simp only [Option.some.injEq,Prod.mk.injEq] at H;obtain ⟨rfl,rfl,rfl,rfl,rfl⟩:=H;have hnb46:=NB229_230.out;have hnc46:=NB230_229.out;have hcz47_0 : wc.cell? ⟨gb229,0,none⟩=some (.int .i64 0):=(zz BK229.out 0).trans rfl;have hcz47_1 : wc.cell? ⟨gb229,1,none⟩=some (.int .i64 0):=(zz BK229.out 1).trans rfl;have hcz47_2 : wc.cell? ⟨gb229,2,none⟩=some (.string (⟨#[]⟩ : ByteArray)):=(zz BK229.out 2).trans rfl;have hfz47_0:=zA BK229.out 0;have hfz47_1:=zA BK229.out 1;have hfz47_2:=zA BK229.out 2
     go_wp2
     refine bodyPost_ret (results_ctt rfl _ _ gb229 33 #[.int .i64 0,.int .i64 0,.string (⟨#[]⟩ : ByteArray)] (0,0) _ rfl (by (with_reducible repeat (first|refine ze ?_ _|refine zf ?_|refine zg ?_ _));refine zL (cs:=#[.int .i64 0,.int .i64 0,.string (⟨#[]⟩ : ByteArray)]) ?_ 2 _ rfl;(with_reducible repeat (first|refine ze ?_ _|refine zf ?_|refine zg ?_ _));refine zL (cs:=#[.int .i64 0,.int .i64 0,.string (⟨#[]⟩ : ByteArray)]) ?_ 1 _ rfl;(with_reducible repeat (first|refine ze ?_ _|refine zf ?_|refine zg ?_ _));refine zL (cs:=#[.int .i64 0,.int .i64 0,.string (⟨#[]⟩ : ByteArray)]) ?_ 0 _ rfl;(with_reducible repeat (first|refine ze ?_ _|refine zf ?_|refine zg ?_ _));exact BK229.out) Try.underlying33 rfl (by kernel_rfl)) rfl ?_;exact ⟨by first|rfl|(simp [yt,yu] <;> rfl)|(simp [*,yt,yu] <;> rfl),by repeat (with_reducible first|exact HB.out|apply za|apply zb|apply zc|refine zd ?_ GE229.out|refine zd ?_ GE230.out)⟩
  case rest =>
   clear HC7
   try clear c1
   try clear c2
   try clear c2b0
   try clear c2b1
   try clear p2
   try clear c3
   try clear c4
   try clear c5
   try clear c5b0
   try clear c5b1
   try clear p6
   try clear q6
   try clear hx6
   try clear qi6
   try clear c10
   try clear c12
   try clear c12b0
   try clear c12b1
   try clear c13
   try clear c13b0
   try clear c13b1
   try clear c19
   try clear c19b0
   try clear c19b1
   try clear c20
   try clear c20b0
   try clear c20b1
   try clear c22
   try clear c22b0
   try clear c22b1
   try clear c23
   try clear c23b0
   try clear c23b1
   try clear c24
   try clear c25
   try clear c25b0
   try clear c25b1
   try clear c26
   try clear c28
   try clear c28b0
   try clear c28b1
   try clear c29
   try clear c29b0
   try clear c29b1
   try clear c31
   try clear c31b0
   try clear c32
   try clear c34
   try clear c34b0
   try clear c34b1
   try clear c35
   try clear c35b0
   try clear c35b1
   try clear c37
   try clear c37b0
   try clear c37b1
   try clear c38
   try clear c38b0
   try clear c39
   try clear c46
   try clear hcz11_0
   try clear hcz11_1
   try clear hcz11_2
   try clear hcz27_0
   try clear hcz27_1
   try clear hcz27_2
   try clear hcz33_0
   try clear hcz33_1
   try clear hcz33_2
   try clear hcz40_0
   try clear hcz40_1
   try clear hcz40_2
   try clear hcz47_0
   try clear hcz47_1
   try clear hcz47_2
   try clear hcz4_0
   try clear hcz4_1
   try clear hcz4_2
   try clear hfz11_0
   try clear hfz11_1
   try clear hfz11_2
   try clear hfz27_0
   try clear hfz27_1
   try clear hfz27_2
   try clear hfz33_0
   try clear hfz33_1
   try clear hfz33_2
   try clear hfz40_0
   try clear hfz40_1
   try clear hfz40_2
   try clear hfz47_0
   try clear hfz47_1
   try clear hfz47_2
   try clear hfz4_0
   try clear hfz4_1
   try clear hfz4_2
   try clear p2
   try clear p6
   try clear q6
   obtain ⟨kq,x6_6,x230000_6,x230001_6,x230002_6,x231002_6,rfl,HA,HJ6,BK229,BK230,HB⟩:=hcut
   cases kq with
   | zero => exact absurd HA.out (by simp [spec_l01Next.j1])
   | succ kj6 =>
    have H:=HA.out;clear HA;simp only [spec_l01Next.j1] at H
    by_cases c48 : (a0.size : Int)<(wrap64 (1 + x6_6))
    ·
     rw [if_pos c48] at H
     have c48b0 : decide ((a0.size : Int)<(wrap64 (1 + x6_6)))=true:=decide_eq_true c48;clear c48;simp only [Option.some.injEq,Prod.mk.injEq] at H;obtain ⟨rfl,rfl,rfl,rfl,rfl⟩:=H;have hnb49:=NB229_230.out;have hnc49:=NB230_229.out;have hcz50_0 : wc.cell? ⟨gb229,0,none⟩=some (.int .i64 x230000_6):=(zz BK229.out 0).trans rfl;have hcz50_1 : wc.cell? ⟨gb229,1,none⟩=some (.int .i64 x230001_6):=(zz BK229.out 1).trans rfl;have hcz50_2 : wc.cell? ⟨gb229,2,none⟩=some (.string x230002_6):=(zz BK229.out 2).trans rfl;have hfz50_0:=zA BK229.out 0;have hfz50_1:=zA BK229.out 1;have hfz50_2:=zA BK229.out 2
     go_wp2
     refine bodyPost_ret (results_ctt rfl _ _ gb229 33 #[.int .i64 0,.int .i64 0,.string (⟨#[]⟩ : ByteArray)] (0,0) _ rfl (by (with_reducible repeat (first|refine ze ?_ _|refine zf ?_|refine zg ?_ _));refine zL (cs:=#[.int .i64 0,.int .i64 0,.string x230002_6]) ?_ 2 _ rfl;(with_reducible repeat (first|refine ze ?_ _|refine zf ?_|refine zg ?_ _));refine zL (cs:=#[.int .i64 0,.int .i64 x230001_6,.string x230002_6]) ?_ 1 _ rfl;(with_reducible repeat (first|refine ze ?_ _|refine zf ?_|refine zg ?_ _));refine zL (cs:=#[.int .i64 x230000_6,.int .i64 x230001_6,.string x230002_6]) ?_ 0 _ rfl;(with_reducible repeat (first|refine ze ?_ _|refine zf ?_|refine zg ?_ _));exact BK229.out) Try.underlying33 rfl (by kernel_rfl)) rfl ?_;exact ⟨by first|rfl|(simp [yt,yu] <;> rfl)|(simp [*,yt,yu] <;> rfl),by repeat (with_reducible first|exact HB.out|apply za|apply zb|apply zc|refine zd ?_ GE229.out|refine zd ?_ GE230.out)⟩
    rw [if_neg c48] at H;have c48b0 : decide ((a0.size : Int)<(wrap64 (1 + x6_6)))=false:=decide_eq_false c48;clear c48
    by_cases c51 : x6_6=1
    ·
     rw [if_pos c51] at H
     have c51b0 : (x6_6 == 1)=true:=ya.mpr c51;have c51b1 : (x6_6 != 1)=false:=zX.mpr c51;clear c51
     by_cases c52 : 1<(a0.size : Int)
     ·
      rw [if_pos c52] at H
      have c52b0 : decide (1<(a0.size : Int))=true:=decide_eq_true c52;have c52b1 : decide (1<a0.size)=true:=decide_eq_true (by omega);clear c52;obtain ⟨ji54,hji54⟩ : ∃ j_ : Int,(wrap64 (1 + x6_6))=j_:=⟨_,rfl⟩;replace H : (if 0≤(ji54) then (if (ji54)≤(a0.size : Int) then (some ((wrap64 (bt a0 0)),wrap64 (bt a0 1),x231002_6,a0.extract ((ji54) : Int).toNat a0.size,true)) else (none)) else (none))=some (r1,r2,r3,r4,r5):=by first|(rw [hji54] at H;exact H)|(simp only [hji54] at H ⊢;exact H)
      (try rw [hji54] at c48b0);have hji54w : (IntKind.i64.wrap (1 + x6_6))=ji54:=(zG _).trans hji54
      by_cases c55 : 0≤(ji54)
      ·
       rw [if_pos c55] at H
       have c55b0:=eq_true c55;have c55b1 : decide (0≤(ji54))=true:=decide_eq_true c55;clear c55
       by_cases c56 : (ji54)≤(a0.size : Int)
       ·
        rw [if_pos c56] at H
        have c56b0:=eq_true c56;have c56b1 : decide ((ji54)≤(a0.size : Int))=true:=decide_eq_true c56;clear c56;simp only [Option.some.injEq,Prod.mk.injEq] at H;obtain ⟨rfl,rfl,rfl,rfl,rfl⟩:=H;have p53 : 0≤(1 : Int):=(by omega);have q53 : 1<a0.size:=(by have : (1 : Int)<(a0.size : Int):=zy (by first|(with_reducible assumption)|assumption);omega);have hx53 : ∀ h : 1<a0.size,((a0[1]'h).toNat : Int)=bt a0 1:=bt_at a0 1;clear p53;have qi53 : (1<(a0.size : Int))=True:=eq_true (zy (by first|(with_reducible assumption)|assumption));replace q53:=eq_true q53;have hnb57:=NB230_229.out;have hnc57:=NB229_230.out;have hcz58_0 : wc.cell? ⟨gb230,0,none⟩=some (.int .i64 (wrap64 (bt a0 0))):=(zz BK230.out 0).trans rfl;have hcz58_1 : wc.cell? ⟨gb230,1,none⟩=some (.int .i64 0):=(zz BK230.out 1).trans rfl;have hcz58_2 : wc.cell? ⟨gb230,2,none⟩=some (.string x231002_6):=(zz BK230.out 2).trans rfl;have hfz58_0:=zA BK230.out 0;have hfz58_1:=zA BK230.out 1;have hfz58_2:=zA BK230.out 2
        try go_wp2
        have n0_ : Aside0 ((wc.setCell ⟨gb230,1,none⟩ (.int .i64 (wrap64 (bt a0 1)))).heap[gb229]? = some (.cells #[.int .i64 x230000_6,.int .i64 x230001_6,.string x230002_6] 33 (0,0))):=⟨by (with_reducible repeat (first|refine ze ?_ _|refine zf ?_|refine zg ?_ _));refine zS ?_ NB229_230.out _;(with_reducible repeat (first|refine ze ?_ _|refine zf ?_|refine zg ?_ _));exact BK229.out⟩;have n1_ : Aside0 ((wc.setCell ⟨gb230,1,none⟩ (.int .i64 (wrap64 (bt a0 1)))).heap[gb230]? = some (.cells #[.int .i64 (wrap64 (bt a0 0)),.int .i64 (wrap64 (bt a0 1)),.string x231002_6] 33 (0,0))):=⟨by (with_reducible repeat (first|refine ze ?_ _|refine zf ?_|refine zg ?_ _));refine zL (cs:=#[.int .i64 (wrap64 (bt a0 0)),.int .i64 0,.string x231002_6]) ?_ 1 _ rfl;(with_reducible repeat (first|refine ze ?_ _|refine zf ?_|refine zg ?_ _));exact BK230.out⟩;have n2_ : Aside0 (Below w.heap.size w (wc.setCell ⟨gb230,1,none⟩ (.int .i64 (wrap64 (bt a0 1))))):=⟨by repeat (with_reducible first|exact HB.out|apply za|apply zb|apply zc|refine zd ?_ GE229.out|refine zd ?_ GE230.out)⟩;(try clear BK229);(try clear BK230);(try clear HB);generalize (wc.setCell ⟨gb230,1,none⟩ (.int .i64 (wrap64 (bt a0 1))))=w59 at n0_ n1_ n2_ ⊢;have BK229:=n0_;have BK230:=n1_;have HB:=n2_;clear n0_ n1_ n2_;replace BK229:=zh (zf BK229.out);replace BK230:=zh (zf BK230.out);replace HB:=zh (zc HB.out);refine start_ (n:=8) (S:=fun w' => w'.cell? ⟨gb230,0,none⟩=some (.int .i64 (wrap64 (bt a0 0)))∧w'.cell? ⟨gb230,1,none⟩=some (.int .i64 (wrap64 (bt a0 1)))∧w'.cell? ⟨gb230,2,none⟩=some (.string x231002_6)) (ds:=[]) (bm_ 0 8) (by kernel_rfl) rfl rfl ⟨(zz BK230.out 0).trans rfl,(zz BK230.out 1).trans rfl,(zz BK230.out 2).trans rfl⟩ (fun hHeld => ?_);refine with_tabW spec_l01Next.tab30 spec_l01Next.bits30 (fun HT_ HW_ => ?_);generalize w59.drew=w60 at BK229 BK230 HB hHeld ⊢;refine pure_ (i:=1) (N:=some 77) (v:=?_) (a':=?_) #[false,true,false,false,false,false,false,false] rfl rfl (any_of HT_.out (by kernel_rfl)) (fun _ _ _ h => h) (Or.inl ⟨by rfl,?_⟩) ?_ ?_;rotate_left
        ·
         intro w'
         go_simp
         with_reducible rfl
        rotate_left
        ·
         simp only [Act.put,zi,zj,zk,zG,zH]
         rfl
        refine pure_ (i:=2) (N:=some 78) (v:=?_) (a':=?_) #[false,true,true,false,false,false,false,false] rfl rfl (any_of HT_.out (by kernel_rfl)) (fun _ _ _ h => h) (Or.inl ⟨by rfl,?_⟩) ?_ ?_;rotate_left
        ·
         intro w'
         go_simp
         with_reducible rfl
        rotate_left
        ·
         simp only [Act.put,zi,zj,zk,zG,zH]
         rfl
        refine pure_ (i:=3) (N:=some 79) (v:=?_) (a':=?_) #[false,true,true,true,false,false,false,false] rfl rfl (any_of HT_.out (by kernel_rfl)) (fun _ _ _ h => h) (Or.inl ⟨by rfl,?_⟩) ?_ ?_;rotate_left
        ·
         intro w'
         go_simp
         with_reducible rfl
        rotate_left
        ·
         simp only [Act.put,zi,zj,zk,zG,zH]
         rfl
        refine pure_ (i:=4) (N:=some 80) (v:=?_) (a':=?_) #[false,true,true,true,true,false,false,false] rfl rfl (any_of HT_.out (by kernel_rfl)) (fun _ _ _ h => h) (Or.inl ⟨by rfl,?_⟩) ?_ ?_;rotate_left
        ·
         intro w'
         go_simp
         with_reducible rfl
        rotate_left
        ·
         simp only [Act.put,zi,zj,zk,zG,zH]
         rfl
        refine take_ (i:=0) (N:=some 76) (v:=?_) (a':=?_) (bm_ 5 8) rfl rfl (yo HT_.out HW_.out (by kernel_rfl)) (fun _ _ _ h => h) (Or.inl ⟨by rfl,?_⟩) hHeld ?_ ?_;rotate_left
        ·
         rintro w' ⟨s0,s1,s2⟩
         go_simp
         with_reducible rfl
        rotate_left
        ·
         simp only [Act.put,zi,zj,zk,zG,zH]
         rfl
        refine one_ (i:=5) (N:=none) (bm_ 6 8) rfl rfl (one_of HT_.out (by kernel_rfl)) (by decide) (fun K hK => ?_);have hs61 : w60.cell? ⟨gb229,0,none⟩=some (.int .i64 x230000_6):=(zz BK229.out 0).trans rfl;have hfs61:=zA BK229.out 0;have hns61_1:=NB230_229.out;have hms61_1:=NB229_230.out;have hs62 : w60.cell? ⟨gb229,1,none⟩=some (.int .i64 x230001_6):=(zz BK229.out 1).trans rfl;have hfs62:=zA BK229.out 1;have hns62_1:=NB230_229.out;have hms62_1:=NB229_230.out;have hs63 : w60.cell? ⟨gb229,2,none⟩=some (.string x230002_6):=(zz BK229.out 2).trans rfl;have hfs63:=zA BK229.out 2;have hns63_1:=NB230_229.out;have hms63_1:=NB229_230.out;refine skip_ (w1:=?_) (by rfl) rfl ?_ ?_;rotate_left
        ·
         go_simp
         rfl
        refine hK.out _ _ ⟨((zR (p:=⟨gb229,_,none⟩) NB230_229.out _).trans (((zR (p:=⟨gb229,_,none⟩) NB230_229.out _).trans (((zR (p:=⟨gb229,_,none⟩) NB230_229.out _).trans (hHeld.1)))))),((zR (p:=⟨gb229,_,none⟩) NB230_229.out _).trans (((zR (p:=⟨gb229,_,none⟩) NB230_229.out _).trans (((zR (p:=⟨gb229,_,none⟩) NB230_229.out _).trans (hHeld.2.1)))))),((zR (p:=⟨gb229,_,none⟩) NB230_229.out _).trans (((zR (p:=⟨gb229,_,none⟩) NB230_229.out _).trans (((zR (p:=⟨gb229,_,none⟩) NB230_229.out _).trans (hHeld.2.2))))))⟩ (fun hHeld => ?_);clear hK K;refine pure_ (i:=6) (N:=some 3) (v:=?_) (a':=?_) (bm_ 7 8) rfl rfl (any_of HT_.out (by kernel_rfl)) (fun _ _ _ h => h) (Or.inl ⟨by rfl,?_⟩) ?_ ?_;rotate_left
        ·
         intro w'
         go_simp
         with_reducible rfl
        rotate_left
        ·
         simp only [Act.put,zi,zj,zk,zG,zH]
         rfl
        refine pure_ (i:=7) (N:=some 4) (v:=?_) (a':=?_) (bm_ 8 8) rfl rfl (any_of HT_.out (by kernel_rfl)) (fun _ _ _ h => h) (Or.inl ⟨by rfl,?_⟩) ?_ ?_;rotate_left
        ·
         intro w'
         go_simp
         with_reducible rfl
        rotate_left
        ·
         simp only [Act.put,zi,zj,zk,zG,zH]
         rfl
        refine done_ (done_of HT_.out (by kernel_rfl)) ?_
        try go_wp2
        refine bodyPost_ret (results_ctt rfl _ _ gb229 33 #[.int .i64 (wrap64 (bt a0 0)),.int .i64 (wrap64 (bt a0 1)),.string x231002_6] (0,0) _ rfl (by (with_reducible repeat (first|refine ze ?_ _|refine zf ?_|refine zg ?_ _));refine zL (cs:=#[.int .i64 (wrap64 (bt a0 0)),.int .i64 (wrap64 (bt a0 1)),.string x230002_6]) ?_ 2 _ rfl;(with_reducible repeat (first|refine ze ?_ _|refine zf ?_|refine zg ?_ _));refine zL (cs:=#[.int .i64 (wrap64 (bt a0 0)),.int .i64 x230001_6,.string x230002_6]) ?_ 1 _ rfl;(with_reducible repeat (first|refine ze ?_ _|refine zf ?_|refine zg ?_ _));refine zL (cs:=#[.int .i64 x230000_6,.int .i64 x230001_6,.string x230002_6]) ?_ 0 _ rfl;(with_reducible repeat (first|refine ze ?_ _|refine zf ?_|refine zg ?_ _));exact BK229.out) Try.underlying33 rfl (by kernel_rfl)) rfl ?_;exact ⟨by first|rfl|(simp [yt,yu] <;> rfl)|(simp only [← hji54];first|rfl|(simp [yt,yu] <;> rfl))|(simp [*,yt,yu] <;> rfl),by repeat (with_reducible first|exact HB.out|apply za|apply zb|apply zc|refine zd ?_ GE229.out|refine zd ?_ GE230.out)⟩
       rw [if_neg c56] at H;exact absurd H (by simp)
      rw [if_neg c55] at H;exact absurd H (by simp)
     rw [if_neg c52] at H;exact absurd H (by simp)
    rw [if_neg c51] at H;have c51b0 : (x6_6 == 1)=false:=zY.mpr c51;have c51b1 : (x6_6 != 1)=true:=zZ.mpr c51
    by_cases c64 : 1<(a0.size : Int)
    ·
     rw [if_pos c64] at H
     have c64b0 : decide (1<(a0.size : Int))=true:=decide_eq_true c64;have c64b1 : decide (1<a0.size)=true:=decide_eq_true (by omega);clear c64
     by_cases c66 : (bt a0 1) > 127
     ·
      rw [if_pos c66] at H
      have c66b0 : decide (127<(bt a0 1))=true:=decide_eq_true c66;clear c66;simp only [Option.some.injEq,Prod.mk.injEq] at H;obtain ⟨rfl,rfl,rfl,rfl,rfl⟩:=H;have p65 : 0≤(1 : Int):=(by omega);have q65 : 1<a0.size:=(by have : (1 : Int)<(a0.size : Int):=zy (by first|(with_reducible assumption)|assumption);omega);have hx65 : ∀ h : 1<a0.size,((a0[1]'h).toNat : Int)=bt a0 1:=bt_at a0 1;clear p65;have qi65 : (1<(a0.size : Int))=True:=eq_true (zy (by first|(with_reducible assumption)|assumption));replace q65:=eq_true q65;have hnb67:=NB229_230.out;have hnc67:=NB230_229.out;have hcz68_0 : wc.cell? ⟨gb229,0,none⟩=some (.int .i64 x230000_6):=(zz BK229.out 0).trans rfl;have hcz68_1 : wc.cell? ⟨gb229,1,none⟩=some (.int .i64 x230001_6):=(zz BK229.out 1).trans rfl;have hcz68_2 : wc.cell? ⟨gb229,2,none⟩=some (.string x230002_6):=(zz BK229.out 2).trans rfl;have hfz68_0:=zA BK229.out 0;have hfz68_1:=zA BK229.out 1;have hfz68_2:=zA BK229.out 2
      go_wp2
      refine bodyPost_ret (results_ctt rfl _ _ gb229 33 #[.int .i64 0,.int .i64 0,.string (⟨#[]⟩ : ByteArray)] (0,0) _ rfl (by (with_reducible repeat (first|refine ze ?_ _|refine zf ?_|refine zg ?_ _));refine zL (cs:=#[.int .i64 0,.int .i64 0,.string x230002_6]) ?_ 2 _ rfl;(with_reducible repeat (first|refine ze ?_ _|refine zf ?_|refine zg ?_ _));refine zL (cs:=#[.int .i64 0,.int .i64 x230001_6,.string x230002_6]) ?_ 1 _ rfl;(with_reducible repeat (first|refine ze ?_ _|refine zf ?_|refine zg ?_ _));refine zL (cs:=#[.int .i64 x230000_6,.int .i64 x230001_6,.string x230002_6]) ?_ 0 _ rfl;(with_reducible repeat (first|refine ze ?_ _|refine zf ?_|refine zg ?_ _));exact BK229.out) Try.underlying33 rfl (by kernel_rfl)) rfl ?_;exact ⟨by first|rfl|(simp [yt,yu] <;> rfl)|(simp [*,yt,yu] <;> rfl),by repeat (with_reducible first|exact HB.out|apply za|apply zb|apply zc|refine zd ?_ GE229.out|refine zd ?_ GE230.out)⟩
     rw [if_neg c66] at H;have c66b0 : decide (127<(bt a0 1))=false:=decide_eq_false c66;clear c66
     by_cases c69 : 1≤9
     ·
      rw [if_pos c69] at H
      have c69b0:=eq_true c69;have c69b1 : decide (1≤9)=true:=decide_eq_true c69;clear c69
      by_cases c70 : 9≤(a0.size : Int)
      ·
       rw [if_pos c70] at H
       have c70b0:=eq_true c70;have c70b1 : decide (9≤(a0.size : Int))=true:=decide_eq_true c70;clear c70;replace H:=zT.mp H;obtain ⟨t232,A710,H⟩:=H;replace H : (if 0≤(wrap64 (1 + x6_6)) then (if (wrap64 (1 + x6_6))≤(a0.size : Int) then (some ((wrap64 (bt a0 0)),wrap64 (t232 - 4611686018427387904),x231002_6,a0.extract ((wrap64 (1 + x6_6)) : Int).toNat a0.size,true)) else (none)) else (none))=some (r1,r2,r3,r4,r5):=H;have A71:=zh A710;clear A710;obtain ⟨ji72,hji72⟩ : ∃ j_ : Int,(wrap64 (1 + x6_6))=j_:=⟨_,rfl⟩;replace H : (if 0≤(ji72) then (if (ji72)≤(a0.size : Int) then (some ((wrap64 (bt a0 0)),wrap64 (t232 - 4611686018427387904),x231002_6,a0.extract ((ji72) : Int).toNat a0.size,true)) else (none)) else (none))=some (r1,r2,r3,r4,r5):=by first|(rw [hji72] at H;exact H)|(simp only [hji72] at H ⊢;exact H)
       (try rw [hji72] at c48b0);(try rw [hji72] at A71);have hji72w : (IntKind.i64.wrap (1 + x6_6))=ji72:=(zG _).trans hji72
       by_cases c73 : 0≤(ji72)
       ·
        rw [if_pos c73] at H
        have c73b0:=eq_true c73;have c73b1 : decide (0≤(ji72))=true:=decide_eq_true c73;clear c73
        by_cases c74 : (ji72)≤(a0.size : Int)
        ·
         rw [if_pos c74] at H
         have c74b0:=eq_true c74;have c74b1 : decide ((ji72)≤(a0.size : Int))=true:=decide_eq_true c74;clear c74;simp only [Option.some.injEq,Prod.mk.injEq] at H;obtain ⟨rfl,rfl,rfl,rfl,rfl⟩:=H;have p65 : 0≤(1 : Int):=(by omega);have q65 : 1<a0.size:=(by have : (1 : Int)<(a0.size : Int):=zy (by first|(with_reducible assumption)|assumption);omega);have hx65 : ∀ h : 1<a0.size,((a0[1]'h).toNat : Int)=bt a0 1:=bt_at a0 1;clear p65;have qi65 : (1<(a0.size : Int))=True:=eq_true (zy (by first|(with_reducible assumption)|assumption));replace q65:=eq_true q65
         try go_wp2_with (first|((with_reducible refine zJ (f:=126) rfl ?_);refine yj (some 73) rfl rfl Try.func126 (by kernel_rfl) rfl #[.string (a0.extract 1 9)] rfl (by (try simp only [zt,zu,zv]);first|done|rfl|(simp only [zw,zx];rfl)|(simp only [yr,ys,zV,zW];rfl)) ?_;(with_reducible refine (spec_l01Of.calls kj6  (a0.extract 1 9) t232 _ A71.out).mono ?_);rintro e w' ⟨rfl,⟨nd,rfl⟩⟩;refine ⟨_,rfl,?_⟩;(try (rw [drewN_self wc];generalize hq_ : World.drewN wc _=wc;replace BK229 : Aside0 (wc.heap[gb229]? = some (.cells #[.int .i64 x230000_6,.int .i64 x230001_6,.string x230002_6] 33 (0,0))):=⟨by rw [← hq_];exact (by (with_reducible repeat (first|refine ze ?_ _|refine zf ?_|refine zg ?_ _));exact BK229.out)⟩;replace BK230 : Aside0 (wc.heap[gb230]? = some (.cells #[.int .i64 (wrap64 (bt a0 0)),.int .i64 0,.string x231002_6] 33 (0,0))):=⟨by rw [← hq_];exact (by (with_reducible repeat (first|refine ze ?_ _|refine zf ?_|refine zg ?_ _));exact BK230.out)⟩;replace HB : Aside0 (Below w.heap.size w wc):=⟨by rw [← hq_];exact (by repeat (with_reducible first|exact HB.out|apply za|apply zb|apply zc|refine zd ?_ GE229.out|refine zd ?_ GE230.out))⟩;clear hq_));have hnb75:=NB230_229.out;have hnc75:=NB229_230.out;have hcz76_0 : wc.cell? ⟨gb230,0,none⟩=some (.int .i64 (wrap64 (bt a0 0))):=(zz BK230.out 0).trans rfl;have hcz76_1 : wc.cell? ⟨gb230,1,none⟩=some (.int .i64 0):=(zz BK230.out 1).trans rfl;have hcz76_2 : wc.cell? ⟨gb230,2,none⟩=some (.string x231002_6):=(zz BK230.out 2).trans rfl;have hfz76_0:=zA BK230.out 0;have hfz76_1:=zA BK230.out 1;have hfz76_2:=zA BK230.out 2))
         have n0_ : Aside0 ((wc.setCell ⟨gb230,1,none⟩ (.int .i64 (wrap64 (t232 - 4611686018427387904)))).heap[gb229]? = some (.cells #[.int .i64 x230000_6,.int .i64 x230001_6,.string x230002_6] 33 (0,0))):=⟨by (with_reducible repeat (first|refine ze ?_ _|refine zf ?_|refine zg ?_ _));refine zS ?_ NB229_230.out _;(with_reducible repeat (first|refine ze ?_ _|refine zf ?_|refine zg ?_ _));exact BK229.out⟩;have n1_ : Aside0 ((wc.setCell ⟨gb230,1,none⟩ (.int .i64 (wrap64 (t232 - 4611686018427387904)))).heap[gb230]? = some (.cells #[.int .i64 (wrap64 (bt a0 0)),.int .i64 (wrap64 (t232 - 4611686018427387904)),.string x231002_6] 33 (0,0))):=⟨by (with_reducible repeat (first|refine ze ?_ _|refine zf ?_|refine zg ?_ _));refine zL (cs:=#[.int .i64 (wrap64 (bt a0 0)),.int .i64 0,.string x231002_6]) ?_ 1 _ rfl;(with_reducible repeat (first|refine ze ?_ _|refine zf ?_|refine zg ?_ _));exact BK230.out⟩;have n2_ : Aside0 (Below w.heap.size w (wc.setCell ⟨gb230,1,none⟩ (.int .i64 (wrap64 (t232 - 4611686018427387904))))):=⟨by repeat (with_reducible first|exact HB.out|apply za|apply zb|apply zc|refine zd ?_ GE229.out|refine zd ?_ GE230.out)⟩;(try clear BK229);(try clear BK230);(try clear HB);generalize (wc.setCell ⟨gb230,1,none⟩ (.int .i64 (wrap64 (t232 - 4611686018427387904))))=w77 at n0_ n1_ n2_ ⊢;have BK229:=n0_;have BK230:=n1_;have HB:=n2_;clear n0_ n1_ n2_;replace BK229:=zh (zf BK229.out);replace BK230:=zh (zf BK230.out);replace HB:=zh (zc HB.out);refine start_ (n:=8) (S:=fun w' => w'.cell? ⟨gb230,0,none⟩=some (.int .i64 (wrap64 (bt a0 0)))∧w'.cell? ⟨gb230,1,none⟩=some (.int .i64 (wrap64 (t232 - 4611686018427387904)))∧w'.cell? ⟨gb230,2,none⟩=some (.string x231002_6)) (ds:=[]) (bm_ 0 8) (by kernel_rfl) rfl rfl ⟨(zz BK230.out 0).trans rfl,(zz BK230.out 1).trans rfl,(zz BK230.out 2).trans rfl⟩ (fun hHeld => ?_);refine with_tabW spec_l01Next.tab30 spec_l01Next.bits30 (fun HT_ HW_ => ?_);generalize w77.drew=w78 at BK229 BK230 HB hHeld ⊢;refine pure_ (i:=1) (N:=some 77) (v:=?_) (a':=?_) #[false,true,false,false,false,false,false,false] rfl rfl (any_of HT_.out (by kernel_rfl)) (fun _ _ _ h => h) (Or.inl ⟨by rfl,?_⟩) ?_ ?_;rotate_left
         ·
          intro w'
          go_simp
          with_reducible rfl
         rotate_left
         ·
          simp only [Act.put,zi,zj,zk,zG,zH]
          rfl
         refine pure_ (i:=2) (N:=some 78) (v:=?_) (a':=?_) #[false,true,true,false,false,false,false,false] rfl rfl (any_of HT_.out (by kernel_rfl)) (fun _ _ _ h => h) (Or.inl ⟨by rfl,?_⟩) ?_ ?_;rotate_left
         ·
          intro w'
          go_simp
          with_reducible rfl
         rotate_left
         ·
          simp only [Act.put,zi,zj,zk,zG,zH]
          rfl
         refine pure_ (i:=3) (N:=some 79) (v:=?_) (a':=?_) #[false,true,true,true,false,false,false,false] rfl rfl (any_of HT_.out (by kernel_rfl)) (fun _ _ _ h => h) (Or.inl ⟨by rfl,?_⟩) ?_ ?_;rotate_left
         ·
          intro w'
          go_simp
          with_reducible rfl
         rotate_left
         ·
          simp only [Act.put,zi,zj,zk,zG,zH]
          rfl
         refine pure_ (i:=4) (N:=some 80) (v:=?_) (a':=?_) #[false,true,true,true,true,false,false,false] rfl rfl (any_of HT_.out (by kernel_rfl)) (fun _ _ _ h => h) (Or.inl ⟨by rfl,?_⟩) ?_ ?_;rotate_left
         ·
          intro w'
          go_simp
          with_reducible rfl
         rotate_left
         ·
          simp only [Act.put,zi,zj,zk,zG,zH]
          rfl
         refine take_ (i:=0) (N:=some 76) (v:=?_) (a':=?_) (bm_ 5 8) rfl rfl (yo HT_.out HW_.out (by kernel_rfl)) (fun _ _ _ h => h) (Or.inl ⟨by rfl,?_⟩) hHeld ?_ ?_;rotate_left
         ·
          rintro w' ⟨s0,s1,s2⟩
          go_simp
          with_reducible rfl
         rotate_left
         ·
          simp only [Act.put,zi,zj,zk,zG,zH]
          rfl
         refine one_ (i:=5) (N:=none) (bm_ 6 8) rfl rfl (one_of HT_.out (by kernel_rfl)) (by decide) (fun K hK => ?_);have hs79 : w78.cell? ⟨gb229,0,none⟩=some (.int .i64 x230000_6):=(zz BK229.out 0).trans rfl;have hfs79:=zA BK229.out 0;have hns79_1:=NB230_229.out;have hms79_1:=NB229_230.out;have hs80 : w78.cell? ⟨gb229,1,none⟩=some (.int .i64 x230001_6):=(zz BK229.out 1).trans rfl;have hfs80:=zA BK229.out 1;have hns80_1:=NB230_229.out;have hms80_1:=NB229_230.out;have hs81 : w78.cell? ⟨gb229,2,none⟩=some (.string x230002_6):=(zz BK229.out 2).trans rfl;have hfs81:=zA BK229.out 2;have hns81_1:=NB230_229.out;have hms81_1:=NB229_230.out;refine skip_ (w1:=?_) (by rfl) rfl ?_ ?_;rotate_left
         ·
          go_simp
          rfl
         refine hK.out _ _ ⟨((zR (p:=⟨gb229,_,none⟩) NB230_229.out _).trans (((zR (p:=⟨gb229,_,none⟩) NB230_229.out _).trans (((zR (p:=⟨gb229,_,none⟩) NB230_229.out _).trans (hHeld.1)))))),((zR (p:=⟨gb229,_,none⟩) NB230_229.out _).trans (((zR (p:=⟨gb229,_,none⟩) NB230_229.out _).trans (((zR (p:=⟨gb229,_,none⟩) NB230_229.out _).trans (hHeld.2.1)))))),((zR (p:=⟨gb229,_,none⟩) NB230_229.out _).trans (((zR (p:=⟨gb229,_,none⟩) NB230_229.out _).trans (((zR (p:=⟨gb229,_,none⟩) NB230_229.out _).trans (hHeld.2.2))))))⟩ (fun hHeld => ?_);clear hK K;refine pure_ (i:=6) (N:=some 3) (v:=?_) (a':=?_) (bm_ 7 8) rfl rfl (any_of HT_.out (by kernel_rfl)) (fun _ _ _ h => h) (Or.inl ⟨by rfl,?_⟩) ?_ ?_;rotate_left
         ·
          intro w'
          go_simp
          with_reducible rfl
         rotate_left
         ·
          simp only [Act.put,zi,zj,zk,zG,zH]
          rfl
         refine pure_ (i:=7) (N:=some 4) (v:=?_) (a':=?_) (bm_ 8 8) rfl rfl (any_of HT_.out (by kernel_rfl)) (fun _ _ _ h => h) (Or.inl ⟨by rfl,?_⟩) ?_ ?_;rotate_left
         ·
          intro w'
          go_simp
          with_reducible rfl
         rotate_left
         ·
          simp only [Act.put,zi,zj,zk,zG,zH]
          rfl
         refine done_ (done_of HT_.out (by kernel_rfl)) ?_
         try go_wp2
         refine bodyPost_ret (results_ctt rfl _ _ gb229 33 #[.int .i64 (wrap64 (bt a0 0)),.int .i64 (wrap64 (t232 - 4611686018427387904)),.string x231002_6] (0,0) _ rfl (by (with_reducible repeat (first|refine ze ?_ _|refine zf ?_|refine zg ?_ _));refine zL (cs:=#[.int .i64 (wrap64 (bt a0 0)),.int .i64 (wrap64 (t232 - 4611686018427387904)),.string x230002_6]) ?_ 2 _ rfl;(with_reducible repeat (first|refine ze ?_ _|refine zf ?_|refine zg ?_ _));refine zL (cs:=#[.int .i64 (wrap64 (bt a0 0)),.int .i64 x230001_6,.string x230002_6]) ?_ 1 _ rfl;(with_reducible repeat (first|refine ze ?_ _|refine zf ?_|refine zg ?_ _));refine zL (cs:=#[.int .i64 x230000_6,.int .i64 x230001_6,.string x230002_6]) ?_ 0 _ rfl;(with_reducible repeat (first|refine ze ?_ _|refine zf ?_|refine zg ?_ _));exact BK229.out) Try.underlying33 rfl (by kernel_rfl)) rfl ?_;exact ⟨by first|rfl|(simp [yt,yu] <;> rfl)|(simp only [← hji72];first|rfl|(simp [yt,yu] <;> rfl))|(simp [*,yt,yu] <;> rfl),by repeat (with_reducible first|exact HB.out|apply za|apply zb|apply zc|refine zd ?_ GE229.out|refine zd ?_ GE230.out)⟩
        rw [if_neg c74] at H;exact absurd H (by simp)
       rw [if_neg c73] at H;exact absurd H (by simp)
      rw [if_neg c70] at H;exact absurd H (by simp)
     rw [if_neg c69] at H;exact absurd H (by simp)
    rw [if_neg c64] at H;exact absurd H (by simp)
 rw [if_neg c5] at H;exact absurd H (by simp)

end Go.Proofs.Ytlljfjpdflcjlaa.Q
end
section
namespace Go.Proofs.Ytlljfjpdflcjlaa.Q
open Go.RowKit Go.Proofs.YtlljfjpdflcjlaaW.PrintWords Go.Proofs.YtlljfjpdflcjlaaW.PrintLast Go.Proofs.YtlljfjpdflcjlaaW.PrintMore
attribute [local go_sem] max2_int min2_int max_two min_two max_three min_three max_four min_four max2_str min2_str str_geq str_gtr str_leq   -- for this text's walks alone
set_option linter.unusedVariables false
set_option linter.unusedSimpArgs false

def impl_byteReader_value.j0 : Nat→Bool→ByteArray→Bool→Int→Int→ByteArray→Option (Int×Int×ByteArray×ByteArray×Bool)
 | 0,_,_,_,_,_,_ => none
 | k + 1,x20,x1000,x1001,x322000,x322001,x322002 => if x20=true then ((impl_byteReader_num.f k x1000 x1001 2).bind fun bt328 => ((impl_byteReader_take.f bt328.2.1 bt328.2.2 bt328.1).bind fun bt331 => (some (x322000,x322001,bt331.1,bt331.2.1,bt331.2.2)))) else (some (x322000,x322001,x322002,x1000,x1001))
def impl_byteReader_value.f (k : Nat) (s0_0 : ByteArray) (s0_1 : Bool) : Option (Int×Int×ByteArray×ByteArray×Bool):=(impl_byteReader_num.f k s0_0 s0_1 1).bind fun bt318 => (if bt318.1=1 then ((impl_byteReader_num.f k bt318.2.1 bt318.2.2 1).bind fun bt322 => (some (bt318.1,bt322.1,(⟨#[]⟩ : ByteArray),bt322.2.1,bt322.2.2))) else (if bt318.1=2 then ((impl_byteReader_num.f k bt318.2.1 bt318.2.2 8).bind fun bt325 => (some (bt318.1,wrap64 (bt325.1 - 4611686018427387904),(⟨#[]⟩ : ByteArray),bt325.2.1,bt325.2.2))) else (if bt318.1=3 then (impl_byteReader_value.j0 k (bt318.1 == 3) bt318.2.1 bt318.2.2 bt318.1 0 (⟨#[]⟩ : ByteArray)) else (if bt318.1=4 then (impl_byteReader_value.j0 k (bt318.1 == 4) bt318.2.1 bt318.2.2 bt318.1 0 (⟨#[]⟩ : ByteArray)) else (impl_byteReader_value.j0 k (bt318.1 == 5) bt318.2.1 bt318.2.2 bt318.1 0 (⟨#[]⟩ : ByteArray))))))
theorem impl_byteReader_value.mono_l : ∀ k,(∀ y0 y1 y2 y3 y4 y5,LeO (impl_byteReader_value.j0 k y0 y1 y2 y3 y4 y5) (impl_byteReader_value.j0 (k + 1) y0 y1 y2 y3 y4 y5))
 | 0 => fun _ _ _ _ _ _ r h => by simp [impl_byteReader_value.j0] at h
 | k + 1 => by
  have ih0:=impl_byteReader_value.mono_l k;intro y0 y1 y2 y3 y4 y5;unfold impl_byteReader_value.j0
  repeat' first|(with_reducible exact ih0 _ _ _ _ _ _)|(with_reducible exact impl_byteReader_num.mono _ _ _ _)|(with_reducible exact zQ _)|(with_reducible exact zN _)|(with_reducible refine zP ?_ ?_)|(with_reducible refine zO ?_ (fun _ => ?_))|refine zP ?_ ?_|refine zO ?_ (fun _ => ?_)
theorem impl_byteReader_value.mono : ∀ a0 a1 k,LeO (impl_byteReader_value.f k a0 a1) (impl_byteReader_value.f (k + 1) a0 a1):=by
 intro a0 a1 k;have ih0:=impl_byteReader_value.mono_l k;unfold impl_byteReader_value.f
 repeat' first|(with_reducible exact ih0 _ _ _ _ _ _)|(with_reducible exact impl_byteReader_num.mono _ _ _ _)|(with_reducible exact zQ _)|(with_reducible exact zN _)|(with_reducible refine zP ?_ ?_)|(with_reducible refine zO ?_ (fun _ => ?_))|refine zP ?_ ?_|refine zO ?_ (fun _ => ?_)
set_option maxHeartbeats 8000000 in
set_option maxRecDepth 100000 in
theorem impl_byteReader_value.calls (k : Nat) (g : Nat) (s0_0 : ByteArray) (s0_1 : Bool) (r1 : Int) (r2 : Int) (r3 : ByteArray) (r4 : ByteArray) (r5 : Bool) (w0 w : World) (hI : IsS54 w0 w g s0_0 s0_1) (hB : Below w0.heap.size w0 w) (h : impl_byteReader_value.f k s0_0 s0_1=some (r1,r2,r3,r4,r5)) :
  Calls Try.prog 107 #[.pointer (some ⟨g,0,none⟩)] w fun e w' => e = .returned (.agg #[.int .i64 r1,.int .i64 r2,.string r3])∧IsS54 w0 w' g r4 r5∧Below w0.heap.size w0 w' ∧ KeepBut w w' g none:=by
 have hu33:=Try.underlying33;have HI0:=zh hI;have HK:=zh (KeepBut.refl w g none);have HL:=zh hB.size;clear hI;have HW0:=zh hB.size;have HB:=zh hB;clear hB;have H : ((impl_byteReader_num.f k s0_0 s0_1 1).bind fun bt318 => (if bt318.1=1 then ((impl_byteReader_num.f k bt318.2.1 bt318.2.2 1).bind fun bt322 => (some (bt318.1,bt322.1,(⟨#[]⟩ : ByteArray),bt322.2.1,bt322.2.2))) else (if bt318.1=2 then ((impl_byteReader_num.f k bt318.2.1 bt318.2.2 8).bind fun bt325 => (some (bt318.1,wrap64 (bt325.1 - 4611686018427387904),(⟨#[]⟩ : ByteArray),bt325.2.1,bt325.2.2))) else (if bt318.1=3 then (impl_byteReader_value.j0 k (bt318.1 == 3) bt318.2.1 bt318.2.2 bt318.1 0 (⟨#[]⟩ : ByteArray)) else (if bt318.1=4 then (impl_byteReader_value.j0 k (bt318.1 == 4) bt318.2.1 bt318.2.2 bt318.1 0 (⟨#[]⟩ : ByteArray)) else (impl_byteReader_value.j0 k (bt318.1 == 5) bt318.2.1 bt318.2.2 bt318.1 0 (⟨#[]⟩ : ByteArray)))))))=some (r1,r2,r3,r4,r5):=h;clear h;replace H:=zT.mp H;obtain ⟨⟨t318,t319,t320⟩,A20,H⟩:=H;replace H : (if t318=1 then ((impl_byteReader_num.f k t319 t320 1).bind fun bt322 => (some (t318,bt322.1,(⟨#[]⟩ : ByteArray),bt322.2.1,bt322.2.2))) else (if t318=2 then ((impl_byteReader_num.f k t319 t320 8).bind fun bt325 => (some (t318,wrap64 (bt325.1 - 4611686018427387904),(⟨#[]⟩ : ByteArray),bt325.2.1,bt325.2.2))) else (if t318=3 then (impl_byteReader_value.j0 k (t318 == 3) t319 t320 t318 0 (⟨#[]⟩ : ByteArray)) else (if t318=4 then (impl_byteReader_value.j0 k (t318 == 4) t319 t320 t318 0 (⟨#[]⟩ : ByteArray)) else (impl_byteReader_value.j0 k (t318 == 5) t319 t320 t318 0 (⟨#[]⟩ : ByteArray))))))=some (r1,r2,r3,r4,r5):=H;have A2:=zh A20;clear A20
 by_cases c3 : t318=1
 ·
  rw [if_pos c3] at H
  have c3b0 : (t318 == 1)=true:=ya.mpr c3;have c3b1 : (t318 != 1)=false:=zX.mpr c3;clear c3;replace H:=zT.mp H;obtain ⟨⟨t322,t323,t324⟩,A40,H⟩:=H;replace H : (some (t318,t322,(⟨#[]⟩ : ByteArray),t323,t324))=some (r1,r2,r3,r4,r5):=H;have A4:=zh A40;clear A40;simp only [Option.some.injEq,Prod.mk.injEq] at H;obtain ⟨rfl,rfl,rfl,rfl,rfl⟩:=H
  go_enter Try.func107,Try.ntmps107
  go_wp2_with (first|((with_reducible refine zK (N:=2) rfl ?_);refine zI ?hg (N:=2) ?hd (cs:=#[.int .i64 0,.int .i64 0,.string (⟨#[]⟩ : ByteArray)]) (t:=33) ?hr ?_;(case hd => rfl);(case hg => rfl);(case hr => first|(go_simp;done)|(go_simp;rfl));intro gb317 hg w5 hbox hb;replace HB:=zh (zC (by repeat (with_reducible first|exact HB.out|apply za|apply zb|apply zc|refine zd ?_ (IsS54.ge HI0.out))) hb);have BK317:=zh (hbox);have GW317:=zh ((by rw [hg];exact (keep_size (w:=w) (g:=g) (row:=none) (by repeat (with_reducible first|exact HK.out|apply yl|apply ym|apply yx|apply yn))) : w.heap.size≤gb317));have GE317:=zh ((Nat.le_trans HW0.out (by rw [hg];exact (keep_size (w:=w) (g:=g) (row:=none) (by repeat (with_reducible first|exact HK.out|apply yl|apply ym|apply yx|apply yn))) : w.heap.size≤gb317) : w0.heap.size≤gb317));replace HK:=zh (KeepBut.trans (by repeat (with_reducible first|exact HK.out|apply yl|apply ym|apply yx|apply yn)) (KeepBut.of_below hb g none) (.inl rfl));have NB0_317:=zh ((by rw [hg];exact yc (IsS54.lt (show IsS54 w0 _ g s0_0 s0_1 from by repeat (with_reducible first|exact HI0.out|apply IsS54.alloc|apply IsS54.drewN|apply IsS54.drew|apply IsS54.set_0|apply IsS54.set_1))) : g≠gb317));have NB317_0:=zh ((by rw [hg];exact yd (IsS54.lt (show IsS54 w0 _ g s0_0 s0_1 from by repeat (with_reducible first|exact HI0.out|apply IsS54.alloc|apply IsS54.drewN|apply IsS54.drew|apply IsS54.set_0|apply IsS54.set_1))) : gb317≠g));replace HI0:=zh (IsS54.below (by repeat (with_reducible first|exact HI0.out|apply IsS54.alloc|apply IsS54.drewN|apply IsS54.drew|apply IsS54.set_0|apply IsS54.set_1)) hb);clear hb hbox hg)|((with_reducible refine zJ (f:=54) rfl ?_);refine yj (some 5) rfl rfl Try.func54 (by kernel_rfl) rfl #[.pointer (some ⟨g,0,none⟩),.int .i64 1] rfl (by (try simp only [zt,zu,zv]);first|done|rfl|(simp only [zw,zx];rfl)|(simp only [yr,ys,zV,zW];rfl)) ?_;(with_reducible refine (impl_byteReader_num.calls k  g s0_0 s0_1 1 t318 t319 t320 w0 _ ?side1 ?side2 A2.out).mono ?_);(case side1 => repeat (with_reducible first|exact HI0.out|apply IsS54.alloc|apply IsS54.drewN|apply IsS54.drew|apply IsS54.set_0|apply IsS54.set_1|refine IsS54.far ?_ NB0_317.out _));(case side2 => repeat (with_reducible first|exact HB.out|apply za|apply zb|apply zc|refine zd ?_ (IsS54.ge HI0.out)|refine zd ?_ GE317.out));rintro e w6 ⟨rfl,hi,hb,hk⟩;refine ⟨_,rfl,?_⟩;replace BK317:=zh (KeepBut.blk hk (g':=gb317) (o:=.cells #[.int .i64 0,.int .i64 0,.string (⟨#[]⟩ : ByteArray)] 33 (0,0)) (by (with_reducible repeat (first|refine ze ?_ _|refine zf ?_|refine zg ?_ _));exact BK317.out) NB317_0.out (by simp));replace HK:=zh (KeepBut.trans (by repeat (with_reducible first|exact HK.out|apply yl|apply ym|apply yx|apply yn|refine keep_far ?_ GW317.out _)) hk (.inl rfl));replace HB:=zh (hb);replace HI0:=zh (hi);(try clear hb);(try clear hb2);(try clear hk);(try clear hi))|((with_reducible refine zK (N:=3) rfl ?_);refine zI ?hg (N:=3) ?hd (cs:=#[.int .i64 0,.int .i64 0,.string (⟨#[]⟩ : ByteArray)]) (t:=33) ?hr ?_;(case hd => rfl);(case hg => rfl);(case hr => first|(go_simp;done)|(go_simp;rfl));intro gb321 hg w7 hbox hb;replace HB:=zh (zC (by repeat (with_reducible first|exact HB.out|apply za|apply zb|apply zc|refine zd ?_ (IsS54.ge HI0.out)|refine zd ?_ GE317.out)) hb);have BK321:=zh (hbox);have GW321:=zh ((by rw [hg];exact (keep_size (w:=w) (g:=g) (row:=none) (by repeat (with_reducible first|exact HK.out|apply yl|apply ym|apply yx|apply yn|refine keep_far ?_ GW317.out _))) : w.heap.size≤gb321));have GE321:=zh ((Nat.le_trans HW0.out (by rw [hg];exact (keep_size (w:=w) (g:=g) (row:=none) (by repeat (with_reducible first|exact HK.out|apply yl|apply ym|apply yx|apply yn|refine keep_far ?_ GW317.out _))) : w.heap.size≤gb321) : w0.heap.size≤gb321));replace HK:=zh (KeepBut.trans (by repeat (with_reducible first|exact HK.out|apply yl|apply ym|apply yx|apply yn|refine keep_far ?_ GW317.out _)) (KeepBut.of_below hb g none) (.inl rfl));have NB317_321:=zh ((by rw [hg];exact yc (yi (g:=gb317) (o:=.cells #[.int .i64 0,.int .i64 0,.string (⟨#[]⟩ : ByteArray)] 33 (0,0)) (by (with_reducible repeat (first|refine ze ?_ _|refine zf ?_|refine zg ?_ _));exact BK317.out)) : gb317≠gb321));have NB321_317:=zh ((by rw [hg];exact yd (yi (g:=gb317) (o:=.cells #[.int .i64 0,.int .i64 0,.string (⟨#[]⟩ : ByteArray)] 33 (0,0)) (by (with_reducible repeat (first|refine ze ?_ _|refine zf ?_|refine zg ?_ _));exact BK317.out)) : gb321≠gb317));replace BK317:=zh (zD (g:=gb317) (o:=.cells #[.int .i64 0,.int .i64 0,.string (⟨#[]⟩ : ByteArray)] 33 (0,0)) (by (with_reducible repeat (first|refine ze ?_ _|refine zf ?_|refine zg ?_ _));exact BK317.out) hb);have NB0_321:=zh ((by rw [hg];exact yc (IsS54.lt (show IsS54 w0 _ g t319 t320 from by repeat (with_reducible first|exact HI0.out|apply IsS54.alloc|apply IsS54.drewN|apply IsS54.drew|apply IsS54.set_0|apply IsS54.set_1|refine IsS54.far ?_ NB0_317.out _))) : g≠gb321));have NB321_0:=zh ((by rw [hg];exact yd (IsS54.lt (show IsS54 w0 _ g t319 t320 from by repeat (with_reducible first|exact HI0.out|apply IsS54.alloc|apply IsS54.drewN|apply IsS54.drew|apply IsS54.set_0|apply IsS54.set_1|refine IsS54.far ?_ NB0_317.out _))) : gb321≠g));replace HI0:=zh (IsS54.below (by repeat (with_reducible first|exact HI0.out|apply IsS54.alloc|apply IsS54.drewN|apply IsS54.drew|apply IsS54.set_0|apply IsS54.set_1|refine IsS54.far ?_ NB0_317.out _)) hb);clear hb hbox hg;have hnb8:=NB321_317.out;have hnc8:=NB317_321.out;have hnb9:=NB321_0.out;have hnc9:=NB0_321.out;have hcz10_0 : w7.cell? ⟨gb321,0,none⟩=some (.int .i64 0):=(zz BK321.out 0).trans rfl;have hcz10_1 : w7.cell? ⟨gb321,1,none⟩=some (.int .i64 0):=(zz BK321.out 1).trans rfl;have hcz10_2 : w7.cell? ⟨gb321,2,none⟩=some (.string (⟨#[]⟩ : ByteArray)):=(zz BK321.out 2).trans rfl;have hfz10_0:=zA BK321.out 0;have hfz10_1:=zA BK321.out 1;have hfz10_2:=zA BK321.out 2)|((with_reducible refine zJ (f:=54) rfl ?_);refine yj (some 12) rfl rfl Try.func54 (by kernel_rfl) rfl #[.pointer (some ⟨g,0,none⟩),.int .i64 1] rfl (by (try simp only [zt,zu,zv]);first|done|rfl|(simp only [zw,zx];rfl)|(simp only [yr,ys,zV,zW];rfl)) ?_;(with_reducible refine (impl_byteReader_num.calls k  g t319 t320 1 t322 t323 t324 w0 _ ?side1 ?side2 A4.out).mono ?_);(case side1 => repeat (with_reducible first|exact HI0.out|apply IsS54.alloc|apply IsS54.drewN|apply IsS54.drew|apply IsS54.set_0|apply IsS54.set_1|refine IsS54.far ?_ NB0_317.out _|refine IsS54.far ?_ NB0_321.out _));(case side2 => repeat (with_reducible first|exact HB.out|apply za|apply zb|apply zc|refine zd ?_ (IsS54.ge HI0.out)|refine zd ?_ GE317.out|refine zd ?_ GE321.out));rintro e w11 ⟨rfl,hi,hb,hk⟩;refine ⟨_,rfl,?_⟩;replace BK317:=zh (KeepBut.blk hk (g':=gb317) (o:=.cells #[.int .i64 0,.int .i64 0,.string (⟨#[]⟩ : ByteArray)] 33 (0,0)) (by (with_reducible repeat (first|refine ze ?_ _|refine zf ?_|refine zg ?_ _));refine zS ?_ NB317_321.out _;(with_reducible repeat (first|refine ze ?_ _|refine zf ?_|refine zg ?_ _));refine zS ?_ NB317_321.out _;(with_reducible repeat (first|refine ze ?_ _|refine zf ?_|refine zg ?_ _));refine zS ?_ NB317_321.out _;(with_reducible repeat (first|refine ze ?_ _|refine zf ?_|refine zg ?_ _));exact BK317.out) NB317_0.out (by simp));replace BK321:=zh (KeepBut.blk hk (g':=gb321) (o:=.cells #[.int .i64 t318,.int .i64 0,.string (⟨#[]⟩ : ByteArray)] 33 (0,0)) (by (with_reducible repeat (first|refine ze ?_ _|refine zf ?_|refine zg ?_ _));refine zL (cs:=#[.int .i64 t318,.int .i64 0,.string (⟨#[]⟩ : ByteArray)]) ?_ 2 _ rfl;(with_reducible repeat (first|refine ze ?_ _|refine zf ?_|refine zg ?_ _));refine zL (cs:=#[.int .i64 t318,.int .i64 0,.string (⟨#[]⟩ : ByteArray)]) ?_ 1 _ rfl;(with_reducible repeat (first|refine ze ?_ _|refine zf ?_|refine zg ?_ _));refine zL (cs:=#[.int .i64 0,.int .i64 0,.string (⟨#[]⟩ : ByteArray)]) ?_ 0 _ rfl;(with_reducible repeat (first|refine ze ?_ _|refine zf ?_|refine zg ?_ _));exact BK321.out) NB321_0.out (by simp));replace HK:=zh (KeepBut.trans (by repeat (with_reducible first|exact HK.out|apply yl|apply ym|apply yx|apply yn|refine keep_far ?_ GW317.out _|refine keep_far ?_ GW321.out _)) hk (.inl rfl));replace HB:=zh (hb);replace HI0:=zh (hi);(try clear hb);(try clear hb2);(try clear hk);(try clear hi);have hcz12_0 : w11.cell? ⟨gb321,0,none⟩=some (.int .i64 t318):=(zz BK321.out 0).trans rfl;have hcz12_1 : w11.cell? ⟨gb321,1,none⟩=some (.int .i64 0):=(zz BK321.out 1).trans rfl;have hcz12_2 : w11.cell? ⟨gb321,2,none⟩=some (.string (⟨#[]⟩ : ByteArray)):=(zz BK321.out 2).trans rfl;have hfz12_0:=zA BK321.out 0;have hfz12_1:=zA BK321.out 1;have hfz12_2:=zA BK321.out 2;have hnb13:=NB317_0.out;have hnc13:=NB0_317.out;have hcz14_0 : w11.cell? ⟨gb317,0,none⟩=some (.int .i64 0):=(zz BK317.out 0).trans rfl;have hcz14_1 : w11.cell? ⟨gb317,1,none⟩=some (.int .i64 0):=(zz BK317.out 1).trans rfl;have hcz14_2 : w11.cell? ⟨gb317,2,none⟩=some (.string (⟨#[]⟩ : ByteArray)):=(zz BK317.out 2).trans rfl;have hfz14_0:=zA BK317.out 0;have hfz14_1:=zA BK317.out 1;have hfz14_2:=zA BK317.out 2))
  refine bodyPost_ret (results_cell_row rfl _ _ gb317 33 #[.int .i64 t318,.int .i64 t322,.string (⟨#[]⟩ : ByteArray)] (0,0) _ rfl (by (with_reducible repeat (first|refine ze ?_ _|refine zf ?_|refine zg ?_ _));refine zL (cs:=#[.int .i64 t318,.int .i64 t322,.string (⟨#[]⟩ : ByteArray)]) ?_ 2 _ rfl;(with_reducible repeat (first|refine ze ?_ _|refine zf ?_|refine zg ?_ _));refine zL (cs:=#[.int .i64 t318,.int .i64 0,.string (⟨#[]⟩ : ByteArray)]) ?_ 1 _ rfl;(with_reducible repeat (first|refine ze ?_ _|refine zf ?_|refine zg ?_ _));refine zL (cs:=#[.int .i64 0,.int .i64 0,.string (⟨#[]⟩ : ByteArray)]) ?_ 0 _ rfl;(with_reducible repeat (first|refine ze ?_ _|refine zf ?_|refine zg ?_ _));refine zS ?_ NB317_321.out _;(with_reducible repeat (first|refine ze ?_ _|refine zf ?_|refine zg ?_ _));exact BK317.out) Try.underlying33 rfl (by kernel_rfl)) rfl ?_;exact ⟨by first|rfl|(simp [yt,yu] <;> rfl)|(simp [*,yt,yu] <;> rfl),by repeat (with_reducible first|exact HI0.out|apply IsS54.alloc|apply IsS54.drewN|apply IsS54.drew|apply IsS54.set_0|apply IsS54.set_1|refine IsS54.far ?_ NB0_317.out _|refine IsS54.far ?_ NB0_321.out _),by repeat (with_reducible first|exact HB.out|apply za|apply zb|apply zc|refine zd ?_ (IsS54.ge HI0.out)|refine zd ?_ GE317.out|refine zd ?_ GE321.out),by repeat (with_reducible first|exact HK.out|apply yl|apply ym|apply yx|apply yn|refine keep_far ?_ GW317.out _|refine keep_far ?_ GW321.out _)⟩
 rw [if_neg c3] at H;have c3b0 : (t318 == 1)=false:=zY.mpr c3;have c3b1 : (t318 != 1)=true:=zZ.mpr c3
 by_cases c15 : t318=2
 ·
  rw [if_pos c15] at H
  have c15b0 : (t318 == 2)=true:=ya.mpr c15;have c15b1 : (t318 != 2)=false:=zX.mpr c15;clear c15;replace H:=zT.mp H;obtain ⟨⟨t325,t326,t327⟩,A160,H⟩:=H;replace H : (some (t318,wrap64 (t325 - 4611686018427387904),(⟨#[]⟩ : ByteArray),t326,t327))=some (r1,r2,r3,r4,r5):=H;have A16:=zh A160;clear A160;simp only [Option.some.injEq,Prod.mk.injEq] at H;obtain ⟨rfl,rfl,rfl,rfl,rfl⟩:=H
  go_enter Try.func107,Try.ntmps107
  go_wp2_with (first|((with_reducible refine zK (N:=2) rfl ?_);refine zI ?hg (N:=2) ?hd (cs:=#[.int .i64 0,.int .i64 0,.string (⟨#[]⟩ : ByteArray)]) (t:=33) ?hr ?_;(case hd => rfl);(case hg => rfl);(case hr => first|(go_simp;done)|(go_simp;rfl));intro gb317 hg w17 hbox hb;replace HB:=zh (zC (by repeat (with_reducible first|exact HB.out|apply za|apply zb|apply zc|refine zd ?_ (IsS54.ge HI0.out))) hb);have BK317:=zh (hbox);have GW317:=zh ((by rw [hg];exact (keep_size (w:=w) (g:=g) (row:=none) (by repeat (with_reducible first|exact HK.out|apply yl|apply ym|apply yx|apply yn))) : w.heap.size≤gb317));have GE317:=zh ((Nat.le_trans HW0.out (by rw [hg];exact (keep_size (w:=w) (g:=g) (row:=none) (by repeat (with_reducible first|exact HK.out|apply yl|apply ym|apply yx|apply yn))) : w.heap.size≤gb317) : w0.heap.size≤gb317));replace HK:=zh (KeepBut.trans (by repeat (with_reducible first|exact HK.out|apply yl|apply ym|apply yx|apply yn)) (KeepBut.of_below hb g none) (.inl rfl));have NB0_317:=zh ((by rw [hg];exact yc (IsS54.lt (show IsS54 w0 _ g s0_0 s0_1 from by repeat (with_reducible first|exact HI0.out|apply IsS54.alloc|apply IsS54.drewN|apply IsS54.drew|apply IsS54.set_0|apply IsS54.set_1))) : g≠gb317));have NB317_0:=zh ((by rw [hg];exact yd (IsS54.lt (show IsS54 w0 _ g s0_0 s0_1 from by repeat (with_reducible first|exact HI0.out|apply IsS54.alloc|apply IsS54.drewN|apply IsS54.drew|apply IsS54.set_0|apply IsS54.set_1))) : gb317≠g));replace HI0:=zh (IsS54.below (by repeat (with_reducible first|exact HI0.out|apply IsS54.alloc|apply IsS54.drewN|apply IsS54.drew|apply IsS54.set_0|apply IsS54.set_1)) hb);clear hb hbox hg)|((with_reducible refine zJ (f:=54) rfl ?_);refine yj (some 5) rfl rfl Try.func54 (by kernel_rfl) rfl #[.pointer (some ⟨g,0,none⟩),.int .i64 1] rfl (by (try simp only [zt,zu,zv]);first|done|rfl|(simp only [zw,zx];rfl)|(simp only [yr,ys,zV,zW];rfl)) ?_;(with_reducible refine (impl_byteReader_num.calls k  g s0_0 s0_1 1 t318 t319 t320 w0 _ ?side1 ?side2 A2.out).mono ?_);(case side1 => repeat (with_reducible first|exact HI0.out|apply IsS54.alloc|apply IsS54.drewN|apply IsS54.drew|apply IsS54.set_0|apply IsS54.set_1|refine IsS54.far ?_ NB0_317.out _));(case side2 => repeat (with_reducible first|exact HB.out|apply za|apply zb|apply zc|refine zd ?_ (IsS54.ge HI0.out)|refine zd ?_ GE317.out));rintro e w18 ⟨rfl,hi,hb,hk⟩;refine ⟨_,rfl,?_⟩;replace BK317:=zh (KeepBut.blk hk (g':=gb317) (o:=.cells #[.int .i64 0,.int .i64 0,.string (⟨#[]⟩ : ByteArray)] 33 (0,0)) (by (with_reducible repeat (first|refine ze ?_ _|refine zf ?_|refine zg ?_ _));exact BK317.out) NB317_0.out (by simp));replace HK:=zh (KeepBut.trans (by repeat (with_reducible first|exact HK.out|apply yl|apply ym|apply yx|apply yn|refine keep_far ?_ GW317.out _)) hk (.inl rfl));replace HB:=zh (hb);replace HI0:=zh (hi);(try clear hb);(try clear hb2);(try clear hk);(try clear hi))|((with_reducible refine zK (N:=3) rfl ?_);refine zI ?hg (N:=3) ?hd (cs:=#[.int .i64 0,.int .i64 0,.string (⟨#[]⟩ : ByteArray)]) (t:=33) ?hr ?_;(case hd => rfl);(case hg => rfl);(case hr => first|(go_simp;done)|(go_simp;rfl));intro gb321 hg w19 hbox hb;replace HB:=zh (zC (by repeat (with_reducible first|exact HB.out|apply za|apply zb|apply zc|refine zd ?_ (IsS54.ge HI0.out)|refine zd ?_ GE317.out)) hb);have BK321:=zh (hbox);have GW321:=zh ((by rw [hg];exact (keep_size (w:=w) (g:=g) (row:=none) (by repeat (with_reducible first|exact HK.out|apply yl|apply ym|apply yx|apply yn|refine keep_far ?_ GW317.out _))) : w.heap.size≤gb321));have GE321:=zh ((Nat.le_trans HW0.out (by rw [hg];exact (keep_size (w:=w) (g:=g) (row:=none) (by repeat (with_reducible first|exact HK.out|apply yl|apply ym|apply yx|apply yn|refine keep_far ?_ GW317.out _))) : w.heap.size≤gb321) : w0.heap.size≤gb321));replace HK:=zh (KeepBut.trans (by repeat (with_reducible first|exact HK.out|apply yl|apply ym|apply yx|apply yn|refine keep_far ?_ GW317.out _)) (KeepBut.of_below hb g none) (.inl rfl));have NB317_321:=zh ((by rw [hg];exact yc (yi (g:=gb317) (o:=.cells #[.int .i64 0,.int .i64 0,.string (⟨#[]⟩ : ByteArray)] 33 (0,0)) (by (with_reducible repeat (first|refine ze ?_ _|refine zf ?_|refine zg ?_ _));exact BK317.out)) : gb317≠gb321));have NB321_317:=zh ((by rw [hg];exact yd (yi (g:=gb317) (o:=.cells #[.int .i64 0,.int .i64 0,.string (⟨#[]⟩ : ByteArray)] 33 (0,0)) (by (with_reducible repeat (first|refine ze ?_ _|refine zf ?_|refine zg ?_ _));exact BK317.out)) : gb321≠gb317));replace BK317:=zh (zD (g:=gb317) (o:=.cells #[.int .i64 0,.int .i64 0,.string (⟨#[]⟩ : ByteArray)] 33 (0,0)) (by (with_reducible repeat (first|refine ze ?_ _|refine zf ?_|refine zg ?_ _));exact BK317.out) hb);have NB0_321:=zh ((by rw [hg];exact yc (IsS54.lt (show IsS54 w0 _ g t319 t320 from by repeat (with_reducible first|exact HI0.out|apply IsS54.alloc|apply IsS54.drewN|apply IsS54.drew|apply IsS54.set_0|apply IsS54.set_1|refine IsS54.far ?_ NB0_317.out _))) : g≠gb321));have NB321_0:=zh ((by rw [hg];exact yd (IsS54.lt (show IsS54 w0 _ g t319 t320 from by repeat (with_reducible first|exact HI0.out|apply IsS54.alloc|apply IsS54.drewN|apply IsS54.drew|apply IsS54.set_0|apply IsS54.set_1|refine IsS54.far ?_ NB0_317.out _))) : gb321≠g));replace HI0:=zh (IsS54.below (by repeat (with_reducible first|exact HI0.out|apply IsS54.alloc|apply IsS54.drewN|apply IsS54.drew|apply IsS54.set_0|apply IsS54.set_1|refine IsS54.far ?_ NB0_317.out _)) hb);clear hb hbox hg;have hnb20:=NB321_317.out;have hnc20:=NB317_321.out;have hnb21:=NB321_0.out;have hnc21:=NB0_321.out;have hcz22_0 : w19.cell? ⟨gb321,0,none⟩=some (.int .i64 0):=(zz BK321.out 0).trans rfl;have hcz22_1 : w19.cell? ⟨gb321,1,none⟩=some (.int .i64 0):=(zz BK321.out 1).trans rfl;have hcz22_2 : w19.cell? ⟨gb321,2,none⟩=some (.string (⟨#[]⟩ : ByteArray)):=(zz BK321.out 2).trans rfl;have hfz22_0:=zA BK321.out 0;have hfz22_1:=zA BK321.out 1;have hfz22_2:=zA BK321.out 2)|((with_reducible refine zJ (f:=54) rfl ?_);refine yj (some 17) rfl rfl Try.func54 (by kernel_rfl) rfl #[.pointer (some ⟨g,0,none⟩),.int .i64 8] rfl (by (try simp only [zt,zu,zv]);first|done|rfl|(simp only [zw,zx];rfl)|(simp only [yr,ys,zV,zW];rfl)) ?_;(with_reducible refine (impl_byteReader_num.calls k  g t319 t320 8 t325 t326 t327 w0 _ ?side1 ?side2 A16.out).mono ?_);(case side1 => repeat (with_reducible first|exact HI0.out|apply IsS54.alloc|apply IsS54.drewN|apply IsS54.drew|apply IsS54.set_0|apply IsS54.set_1|refine IsS54.far ?_ NB0_317.out _|refine IsS54.far ?_ NB0_321.out _));(case side2 => repeat (with_reducible first|exact HB.out|apply za|apply zb|apply zc|refine zd ?_ (IsS54.ge HI0.out)|refine zd ?_ GE317.out|refine zd ?_ GE321.out));rintro e w23 ⟨rfl,hi,hb,hk⟩;refine ⟨_,rfl,?_⟩;replace BK317:=zh (KeepBut.blk hk (g':=gb317) (o:=.cells #[.int .i64 0,.int .i64 0,.string (⟨#[]⟩ : ByteArray)] 33 (0,0)) (by (with_reducible repeat (first|refine ze ?_ _|refine zf ?_|refine zg ?_ _));refine zS ?_ NB317_321.out _;(with_reducible repeat (first|refine ze ?_ _|refine zf ?_|refine zg ?_ _));refine zS ?_ NB317_321.out _;(with_reducible repeat (first|refine ze ?_ _|refine zf ?_|refine zg ?_ _));refine zS ?_ NB317_321.out _;(with_reducible repeat (first|refine ze ?_ _|refine zf ?_|refine zg ?_ _));exact BK317.out) NB317_0.out (by simp));replace BK321:=zh (KeepBut.blk hk (g':=gb321) (o:=.cells #[.int .i64 t318,.int .i64 0,.string (⟨#[]⟩ : ByteArray)] 33 (0,0)) (by (with_reducible repeat (first|refine ze ?_ _|refine zf ?_|refine zg ?_ _));refine zL (cs:=#[.int .i64 t318,.int .i64 0,.string (⟨#[]⟩ : ByteArray)]) ?_ 2 _ rfl;(with_reducible repeat (first|refine ze ?_ _|refine zf ?_|refine zg ?_ _));refine zL (cs:=#[.int .i64 t318,.int .i64 0,.string (⟨#[]⟩ : ByteArray)]) ?_ 1 _ rfl;(with_reducible repeat (first|refine ze ?_ _|refine zf ?_|refine zg ?_ _));refine zL (cs:=#[.int .i64 0,.int .i64 0,.string (⟨#[]⟩ : ByteArray)]) ?_ 0 _ rfl;(with_reducible repeat (first|refine ze ?_ _|refine zf ?_|refine zg ?_ _));exact BK321.out) NB321_0.out (by simp));replace HK:=zh (KeepBut.trans (by repeat (with_reducible first|exact HK.out|apply yl|apply ym|apply yx|apply yn|refine keep_far ?_ GW317.out _|refine keep_far ?_ GW321.out _)) hk (.inl rfl));replace HB:=zh (hb);replace HI0:=zh (hi);(try clear hb);(try clear hb2);(try clear hk);(try clear hi);have hcz24_0 : w23.cell? ⟨gb321,0,none⟩=some (.int .i64 t318):=(zz BK321.out 0).trans rfl;have hcz24_1 : w23.cell? ⟨gb321,1,none⟩=some (.int .i64 0):=(zz BK321.out 1).trans rfl;have hcz24_2 : w23.cell? ⟨gb321,2,none⟩=some (.string (⟨#[]⟩ : ByteArray)):=(zz BK321.out 2).trans rfl;have hfz24_0:=zA BK321.out 0;have hfz24_1:=zA BK321.out 1;have hfz24_2:=zA BK321.out 2;have hnb25:=NB317_0.out;have hnc25:=NB0_317.out;have hcz26_0 : w23.cell? ⟨gb317,0,none⟩=some (.int .i64 0):=(zz BK317.out 0).trans rfl;have hcz26_1 : w23.cell? ⟨gb317,1,none⟩=some (.int .i64 0):=(zz BK317.out 1).trans rfl;have hcz26_2 : w23.cell? ⟨gb317,2,none⟩=some (.string (⟨#[]⟩ : ByteArray)):=(zz BK317.out 2).trans rfl;have hfz26_0:=zA BK317.out 0;have hfz26_1:=zA BK317.out 1;have hfz26_2:=zA BK317.out 2))
  refine bodyPost_ret (results_cell_row rfl _ _ gb317 33 #[.int .i64 t318,.int .i64 (wrap64 (t325 - 4611686018427387904)),.string (⟨#[]⟩ : ByteArray)] (0,0) _ rfl (by (with_reducible repeat (first|refine ze ?_ _|refine zf ?_|refine zg ?_ _));refine zL (cs:=#[.int .i64 t318,.int .i64 (wrap64 (t325 - 4611686018427387904)),.string (⟨#[]⟩ : ByteArray)]) ?_ 2 _ rfl;(with_reducible repeat (first|refine ze ?_ _|refine zf ?_|refine zg ?_ _));refine zL (cs:=#[.int .i64 t318,.int .i64 0,.string (⟨#[]⟩ : ByteArray)]) ?_ 1 _ rfl;(with_reducible repeat (first|refine ze ?_ _|refine zf ?_|refine zg ?_ _));refine zL (cs:=#[.int .i64 0,.int .i64 0,.string (⟨#[]⟩ : ByteArray)]) ?_ 0 _ rfl;(with_reducible repeat (first|refine ze ?_ _|refine zf ?_|refine zg ?_ _));refine zS ?_ NB317_321.out _;(with_reducible repeat (first|refine ze ?_ _|refine zf ?_|refine zg ?_ _));exact BK317.out) Try.underlying33 rfl (by kernel_rfl)) rfl ?_;exact ⟨by first|rfl|(simp [yt,yu] <;> rfl)|(simp [*,yt,yu] <;> rfl),by repeat (with_reducible first|exact HI0.out|apply IsS54.alloc|apply IsS54.drewN|apply IsS54.drew|apply IsS54.set_0|apply IsS54.set_1|refine IsS54.far ?_ NB0_317.out _|refine IsS54.far ?_ NB0_321.out _),by repeat (with_reducible first|exact HB.out|apply za|apply zb|apply zc|refine zd ?_ (IsS54.ge HI0.out)|refine zd ?_ GE317.out|refine zd ?_ GE321.out),by repeat (with_reducible first|exact HK.out|apply yl|apply ym|apply yx|apply yn|refine keep_far ?_ GW317.out _|refine keep_far ?_ GW321.out _)⟩
 rw [if_neg c15] at H;have c15b0 : (t318 == 2)=false:=zY.mpr c15;have c15b1 : (t318 != 2)=true:=zZ.mpr c15;have HC27:=zh H;clear H
 go_enter Try.func107,Try.ntmps107
 go_upto_if 20 with (first|((with_reducible refine zK (N:=2) rfl ?_);refine zI ?hg (N:=2) ?hd (cs:=#[.int .i64 0,.int .i64 0,.string (⟨#[]⟩ : ByteArray)]) (t:=33) ?hr ?_;(case hd => rfl);(case hg => rfl);(case hr => first|(go_simp;done)|(go_simp;rfl));intro gb317 hg w28 hbox hb;replace HB:=zh (zC (by repeat (with_reducible first|exact HB.out|apply za|apply zb|apply zc|refine zd ?_ (IsS54.ge HI0.out))) hb);have BK317:=zh (hbox);have GW317:=zh ((by rw [hg];exact (keep_size (w:=w) (g:=g) (row:=none) (by repeat (with_reducible first|exact HK.out|apply yl|apply ym|apply yx|apply yn))) : w.heap.size≤gb317));have GE317:=zh ((Nat.le_trans HW0.out (by rw [hg];exact (keep_size (w:=w) (g:=g) (row:=none) (by repeat (with_reducible first|exact HK.out|apply yl|apply ym|apply yx|apply yn))) : w.heap.size≤gb317) : w0.heap.size≤gb317));replace HK:=zh (KeepBut.trans (by repeat (with_reducible first|exact HK.out|apply yl|apply ym|apply yx|apply yn)) (KeepBut.of_below hb g none) (.inl rfl));have NB0_317:=zh ((by rw [hg];exact yc (IsS54.lt (show IsS54 w0 _ g s0_0 s0_1 from by repeat (with_reducible first|exact HI0.out|apply IsS54.alloc|apply IsS54.drewN|apply IsS54.drew|apply IsS54.set_0|apply IsS54.set_1))) : g≠gb317));have NB317_0:=zh ((by rw [hg];exact yd (IsS54.lt (show IsS54 w0 _ g s0_0 s0_1 from by repeat (with_reducible first|exact HI0.out|apply IsS54.alloc|apply IsS54.drewN|apply IsS54.drew|apply IsS54.set_0|apply IsS54.set_1))) : gb317≠g));replace HI0:=zh (IsS54.below (by repeat (with_reducible first|exact HI0.out|apply IsS54.alloc|apply IsS54.drewN|apply IsS54.drew|apply IsS54.set_0|apply IsS54.set_1)) hb);clear hb hbox hg)|((with_reducible refine zJ (f:=54) rfl ?_);refine yj (some 5) rfl rfl Try.func54 (by kernel_rfl) rfl #[.pointer (some ⟨g,0,none⟩),.int .i64 1] rfl (by (try simp only [zt,zu,zv]);first|done|rfl|(simp only [zw,zx];rfl)|(simp only [yr,ys,zV,zW];rfl)) ?_;(with_reducible refine (impl_byteReader_num.calls k  g s0_0 s0_1 1 t318 t319 t320 w0 _ ?side1 ?side2 A2.out).mono ?_);(case side1 => repeat (with_reducible first|exact HI0.out|apply IsS54.alloc|apply IsS54.drewN|apply IsS54.drew|apply IsS54.set_0|apply IsS54.set_1|refine IsS54.far ?_ NB0_317.out _));(case side2 => repeat (with_reducible first|exact HB.out|apply za|apply zb|apply zc|refine zd ?_ (IsS54.ge HI0.out)|refine zd ?_ GE317.out));rintro e w29 ⟨rfl,hi,hb,hk⟩;refine ⟨_,rfl,?_⟩;replace BK317:=zh (KeepBut.blk hk (g':=gb317) (o:=.cells #[.int .i64 0,.int .i64 0,.string (⟨#[]⟩ : ByteArray)] 33 (0,0)) (by (with_reducible repeat (first|refine ze ?_ _|refine zf ?_|refine zg ?_ _));exact BK317.out) NB317_0.out (by simp));replace HK:=zh (KeepBut.trans (by repeat (with_reducible first|exact HK.out|apply yl|apply ym|apply yx|apply yn|refine keep_far ?_ GW317.out _)) hk (.inl rfl));replace HB:=zh (hb);replace HI0:=zh (hi);(try clear hb);(try clear hb2);(try clear hk);(try clear hi))|((with_reducible refine zK (N:=3) rfl ?_);refine zI ?hg (N:=3) ?hd (cs:=#[.int .i64 0,.int .i64 0,.string (⟨#[]⟩ : ByteArray)]) (t:=33) ?hr ?_;(case hd => rfl);(case hg => rfl);(case hr => first|(go_simp;done)|(go_simp;rfl));intro gb321 hg w30 hbox hb;replace HB:=zh (zC (by repeat (with_reducible first|exact HB.out|apply za|apply zb|apply zc|refine zd ?_ (IsS54.ge HI0.out)|refine zd ?_ GE317.out)) hb);have BK321:=zh (hbox);have GW321:=zh ((by rw [hg];exact (keep_size (w:=w) (g:=g) (row:=none) (by repeat (with_reducible first|exact HK.out|apply yl|apply ym|apply yx|apply yn|refine keep_far ?_ GW317.out _))) : w.heap.size≤gb321));have GE321:=zh ((Nat.le_trans HW0.out (by rw [hg];exact (keep_size (w:=w) (g:=g) (row:=none) (by repeat (with_reducible first|exact HK.out|apply yl|apply ym|apply yx|apply yn|refine keep_far ?_ GW317.out _))) : w.heap.size≤gb321) : w0.heap.size≤gb321));replace HK:=zh (KeepBut.trans (by repeat (with_reducible first|exact HK.out|apply yl|apply ym|apply yx|apply yn|refine keep_far ?_ GW317.out _)) (KeepBut.of_below hb g none) (.inl rfl));have NB317_321:=zh ((by rw [hg];exact yc (yi (g:=gb317) (o:=.cells #[.int .i64 0,.int .i64 0,.string (⟨#[]⟩ : ByteArray)] 33 (0,0)) (by (with_reducible repeat (first|refine ze ?_ _|refine zf ?_|refine zg ?_ _));exact BK317.out)) : gb317≠gb321));have NB321_317:=zh ((by rw [hg];exact yd (yi (g:=gb317) (o:=.cells #[.int .i64 0,.int .i64 0,.string (⟨#[]⟩ : ByteArray)] 33 (0,0)) (by (with_reducible repeat (first|refine ze ?_ _|refine zf ?_|refine zg ?_ _));exact BK317.out)) : gb321≠gb317));replace BK317:=zh (zD (g:=gb317) (o:=.cells #[.int .i64 0,.int .i64 0,.string (⟨#[]⟩ : ByteArray)] 33 (0,0)) (by (with_reducible repeat (first|refine ze ?_ _|refine zf ?_|refine zg ?_ _));exact BK317.out) hb);have NB0_321:=zh ((by rw [hg];exact yc (IsS54.lt (show IsS54 w0 _ g t319 t320 from by repeat (with_reducible first|exact HI0.out|apply IsS54.alloc|apply IsS54.drewN|apply IsS54.drew|apply IsS54.set_0|apply IsS54.set_1|refine IsS54.far ?_ NB0_317.out _))) : g≠gb321));have NB321_0:=zh ((by rw [hg];exact yd (IsS54.lt (show IsS54 w0 _ g t319 t320 from by repeat (with_reducible first|exact HI0.out|apply IsS54.alloc|apply IsS54.drewN|apply IsS54.drew|apply IsS54.set_0|apply IsS54.set_1|refine IsS54.far ?_ NB0_317.out _))) : gb321≠g));replace HI0:=zh (IsS54.below (by repeat (with_reducible first|exact HI0.out|apply IsS54.alloc|apply IsS54.drewN|apply IsS54.drew|apply IsS54.set_0|apply IsS54.set_1|refine IsS54.far ?_ NB0_317.out _)) hb);clear hb hbox hg;have hnb31:=NB321_317.out;have hnc31:=NB317_321.out;have hnb32:=NB321_0.out;have hnc32:=NB0_321.out;have hcz33_0 : w30.cell? ⟨gb321,0,none⟩=some (.int .i64 0):=(zz BK321.out 0).trans rfl;have hcz33_1 : w30.cell? ⟨gb321,1,none⟩=some (.int .i64 0):=(zz BK321.out 1).trans rfl;have hcz33_2 : w30.cell? ⟨gb321,2,none⟩=some (.string (⟨#[]⟩ : ByteArray)):=(zz BK321.out 2).trans rfl;have hfz33_0:=zA BK321.out 0;have hfz33_1:=zA BK321.out 1;have hfz33_2:=zA BK321.out 2))
 (try simp only [Act.put,zi,zj,zk])
 go_cut [20] (fun v20 wc => ∃ (kq : Nat) (x20_26 : Bool),v20 = .bool x20_26∧Aside0 (impl_byteReader_value.j0 kq x20_26 t319 t320 t318 0 (⟨#[]⟩ : ByteArray)=some (r1,r2,r3,r4,r5))∧Aside0 (kq≤k)∧Aside0 (wc.heap[gb317]? = some (.cells #[.int .i64 0,.int .i64 0,.string (⟨#[]⟩ : ByteArray)] 33 (0,0)))∧Aside0 (wc.heap[gb321]? = some (.cells #[.int .i64 t318,.int .i64 0,.string (⟨#[]⟩ : ByteArray)] 33 (0,0)))∧Aside0 (IsS54 w0 wc g t319 t320)∧Aside0 (KeepBut w wc g none)∧Aside0 (Below w0.heap.size w0 wc))
 case first =>
  have H:=HC27.out;clear HC27
  by_cases c34 : t318=3
  ·
   rw [if_pos c34] at H
   have c34b0 : (t318 == 3)=true:=ya.mpr c34;have c34b1 : (t318 != 3)=false:=zX.mpr c34;clear c34;(first|rw [c34b0]|(simp only [zG,zH];rw [c34b0])|skip);have H':=zh H;clear H
   go_wp2
   go_meet
   case rel => exact ⟨_,((t318 == 3)),(by first|rfl|(simp;done)|(simp [*];done)),H',⟨by first|omega|exact ye _⟩,⟨by (with_reducible repeat (first|refine ze ?_ _|refine zf ?_|refine zg ?_ _));refine zS ?_ NB317_321.out _;(with_reducible repeat (first|refine ze ?_ _|refine zf ?_|refine zg ?_ _));refine zS ?_ NB317_321.out _;(with_reducible repeat (first|refine ze ?_ _|refine zf ?_|refine zg ?_ _));refine zS ?_ NB317_321.out _;(with_reducible repeat (first|refine ze ?_ _|refine zf ?_|refine zg ?_ _));exact BK317.out⟩,⟨by (with_reducible repeat (first|refine ze ?_ _|refine zf ?_|refine zg ?_ _));refine zL (cs:=#[.int .i64 t318,.int .i64 0,.string (⟨#[]⟩ : ByteArray)]) ?_ 2 _ rfl;(with_reducible repeat (first|refine ze ?_ _|refine zf ?_|refine zg ?_ _));refine zL (cs:=#[.int .i64 t318,.int .i64 0,.string (⟨#[]⟩ : ByteArray)]) ?_ 1 _ rfl;(with_reducible repeat (first|refine ze ?_ _|refine zf ?_|refine zg ?_ _));refine zL (cs:=#[.int .i64 0,.int .i64 0,.string (⟨#[]⟩ : ByteArray)]) ?_ 0 _ rfl;(with_reducible repeat (first|refine ze ?_ _|refine zf ?_|refine zg ?_ _));exact BK321.out⟩,⟨by repeat (with_reducible first|exact HI0.out|apply IsS54.alloc|apply IsS54.drewN|apply IsS54.drew|apply IsS54.set_0|apply IsS54.set_1|refine IsS54.far ?_ NB0_317.out _|refine IsS54.far ?_ NB0_321.out _)⟩,⟨by repeat (with_reducible first|exact HK.out|apply yl|apply ym|apply yx|apply yn|refine keep_far ?_ GW317.out _|refine keep_far ?_ GW321.out _)⟩,⟨by repeat (with_reducible first|exact HB.out|apply za|apply zb|apply zc|refine zd ?_ (IsS54.ge HI0.out)|refine zd ?_ GE317.out|refine zd ?_ GE321.out)⟩⟩
  rw [if_neg c34] at H;have c34b0 : (t318 == 3)=false:=zY.mpr c34;have c34b1 : (t318 != 3)=true:=zZ.mpr c34;(first|rw [c34b0]|(simp only [zG,zH];rw [c34b0])|skip)
  by_cases c35 : t318=4
  ·
   rw [if_pos c35] at H
   have c35b0 : (t318 == 4)=true:=ya.mpr c35;have c35b1 : (t318 != 4)=false:=zX.mpr c35;clear c35;have H':=zh H;clear H
   go_wp2
   go_meet
   case rel => exact ⟨_,((t318 == 4)),(by first|rfl|(simp;done)|(simp [*];done)),H',⟨by first|omega|exact ye _⟩,⟨by (with_reducible repeat (first|refine ze ?_ _|refine zf ?_|refine zg ?_ _));refine zS ?_ NB317_321.out _;(with_reducible repeat (first|refine ze ?_ _|refine zf ?_|refine zg ?_ _));refine zS ?_ NB317_321.out _;(with_reducible repeat (first|refine ze ?_ _|refine zf ?_|refine zg ?_ _));refine zS ?_ NB317_321.out _;(with_reducible repeat (first|refine ze ?_ _|refine zf ?_|refine zg ?_ _));exact BK317.out⟩,⟨by (with_reducible repeat (first|refine ze ?_ _|refine zf ?_|refine zg ?_ _));refine zL (cs:=#[.int .i64 t318,.int .i64 0,.string (⟨#[]⟩ : ByteArray)]) ?_ 2 _ rfl;(with_reducible repeat (first|refine ze ?_ _|refine zf ?_|refine zg ?_ _));refine zL (cs:=#[.int .i64 t318,.int .i64 0,.string (⟨#[]⟩ : ByteArray)]) ?_ 1 _ rfl;(with_reducible repeat (first|refine ze ?_ _|refine zf ?_|refine zg ?_ _));refine zL (cs:=#[.int .i64 0,.int .i64 0,.string (⟨#[]⟩ : ByteArray)]) ?_ 0 _ rfl;(with_reducible repeat (first|refine ze ?_ _|refine zf ?_|refine zg ?_ _));exact BK321.out⟩,⟨by repeat (with_reducible first|exact HI0.out|apply IsS54.alloc|apply IsS54.drewN|apply IsS54.drew|apply IsS54.set_0|apply IsS54.set_1|refine IsS54.far ?_ NB0_317.out _|refine IsS54.far ?_ NB0_321.out _)⟩,⟨by repeat (with_reducible first|exact HK.out|apply yl|apply ym|apply yx|apply yn|refine keep_far ?_ GW317.out _|refine keep_far ?_ GW321.out _)⟩,⟨by repeat (with_reducible first|exact HB.out|apply za|apply zb|apply zc|refine zd ?_ (IsS54.ge HI0.out)|refine zd ?_ GE317.out|refine zd ?_ GE321.out)⟩⟩
  rw [if_neg c35] at H;have c35b0 : (t318 == 4)=false:=zY.mpr c35;have c35b1 : (t318 != 4)=true:=zZ.mpr c35;have H':=zh H;clear H
  go_wp2
  go_meet
  case rel => exact ⟨_,((t318 == 5)),(by first|rfl|(simp;done)|(simp [*];done)),H',⟨by first|omega|exact ye _⟩,⟨by (with_reducible repeat (first|refine ze ?_ _|refine zf ?_|refine zg ?_ _));refine zS ?_ NB317_321.out _;(with_reducible repeat (first|refine ze ?_ _|refine zf ?_|refine zg ?_ _));refine zS ?_ NB317_321.out _;(with_reducible repeat (first|refine ze ?_ _|refine zf ?_|refine zg ?_ _));refine zS ?_ NB317_321.out _;(with_reducible repeat (first|refine ze ?_ _|refine zf ?_|refine zg ?_ _));exact BK317.out⟩,⟨by (with_reducible repeat (first|refine ze ?_ _|refine zf ?_|refine zg ?_ _));refine zL (cs:=#[.int .i64 t318,.int .i64 0,.string (⟨#[]⟩ : ByteArray)]) ?_ 2 _ rfl;(with_reducible repeat (first|refine ze ?_ _|refine zf ?_|refine zg ?_ _));refine zL (cs:=#[.int .i64 t318,.int .i64 0,.string (⟨#[]⟩ : ByteArray)]) ?_ 1 _ rfl;(with_reducible repeat (first|refine ze ?_ _|refine zf ?_|refine zg ?_ _));refine zL (cs:=#[.int .i64 0,.int .i64 0,.string (⟨#[]⟩ : ByteArray)]) ?_ 0 _ rfl;(with_reducible repeat (first|refine ze ?_ _|refine zf ?_|refine zg ?_ _));exact BK321.out⟩,⟨by repeat (with_reducible first|exact HI0.out|apply IsS54.alloc|apply IsS54.drewN|apply IsS54.drew|apply IsS54.set_0|apply IsS54.set_1|refine IsS54.far ?_ NB0_317.out _|refine IsS54.far ?_ NB0_321.out _)⟩,⟨by repeat (with_reducible first|exact HK.out|apply yl|apply ym|apply yx|apply yn|refine keep_far ?_ GW317.out _|refine keep_far ?_ GW321.out _)⟩,⟨by repeat (with_reducible first|exact HB.out|apply za|apply zb|apply zc|refine zd ?_ (IsS54.ge HI0.out)|refine zd ?_ GE317.out|refine zd ?_ GE321.out)⟩⟩
 case rest =>
  clear HC27
  try clear c1
  try clear c2
  try clear p2
  try clear c3
  try clear c3b0
  try clear c3b1
  try clear c5
  try clear p6
  try clear c8
  try clear c9
  try clear c10
  try clear c13
  try clear c15
  try clear c15b0
  try clear c15b1
  try clear c20
  try clear c21
  try clear c25
  try clear c31
  try clear c32
  try clear c34
  try clear c34b0
  try clear c34b1
  try clear c35
  try clear c35b0
  try clear c35b1
  try clear hcz10_0
  try clear hcz10_1
  try clear hcz10_2
  try clear hcz12_0
  try clear hcz12_1
  try clear hcz12_2
  try clear hcz14_0
  try clear hcz14_1
  try clear hcz14_2
  try clear hcz22_0
  try clear hcz22_1
  try clear hcz22_2
  try clear hcz24_0
  try clear hcz24_1
  try clear hcz24_2
  try clear hcz26_0
  try clear hcz26_1
  try clear hcz26_2
  try clear hcz33_0
  try clear hcz33_1
  try clear hcz33_2
  try clear hfz10_0
  try clear hfz10_1
  try clear hfz10_2
  try clear hfz12_0
  try clear hfz12_1
  try clear hfz12_2
  try clear hfz14_0
  try clear hfz14_1
  try clear hfz14_2
  try clear hfz22_0
  try clear hfz22_1
  try clear hfz22_2
  try clear hfz24_0
  try clear hfz24_1
  try clear hfz24_2
  try clear hfz26_0
  try clear hfz26_1
  try clear hfz26_2
  try clear hfz33_0
  try clear hfz33_1
  try clear hfz33_2
  obtain ⟨kq,x20_26,rfl,HA,HJ26,BK317,BK321,HI0,HK,HB⟩:=hcut
  cases kq with
  | zero => exact absurd HA.out (by simp [impl_byteReader_value.j0])
  | succ kj26 =>
   have H:=HA.out;clear HA;simp only [impl_byteReader_value.j0] at H
   by_cases c36 : x20_26=true
   ·
    subst c36
    have H1 : ((impl_byteReader_num.f kj26 t319 t320 2).bind fun bt328 => ((impl_byteReader_take.f bt328.2.1 bt328.2.2 bt328.1).bind fun bt331 => (some (t318,0,bt331.1,bt331.2.1,bt331.2.2))))=some (r1,r2,r3,r4,r5):=by rw [if_pos rfl] at H;exact H
    clear H;have H:=H1;clear H1;replace H:=zT.mp H;obtain ⟨⟨t328,t329,t330⟩,A370,H⟩:=H;replace H : ((impl_byteReader_take.f t329 t330 t328).bind fun bt331 => (some (t318,0,bt331.1,bt331.2.1,bt331.2.2)))=some (r1,r2,r3,r4,r5):=H;have A37:=zh A370;clear A370;replace H:=zT.mp H;obtain ⟨⟨t331,t332,t333⟩,A380,H⟩:=H;replace H : (some (t318,0,t331,t332,t333))=some (r1,r2,r3,r4,r5):=H;have A38:=zh A380;clear A380;simp only [Option.some.injEq,Prod.mk.injEq] at H;obtain ⟨rfl,rfl,rfl,rfl,rfl⟩:=H
    go_wp2_with (first|((with_reducible refine zJ (f:=54) rfl ?_);refine yj (some 26) rfl rfl Try.func54 (by kernel_rfl) rfl #[.pointer (some ⟨g,0,none⟩),.int .i64 2] rfl (by (try simp only [zt,zu,zv]);first|done|rfl|(simp only [zw,zx];rfl)|(simp only [yr,ys,zV,zW];rfl)) ?_;(with_reducible refine (impl_byteReader_num.calls kj26  g t319 t320 2 t328 t329 t330 w0 _ ?side1 ?side2 A37.out).mono ?_);(case side1 => repeat (with_reducible first|exact HI0.out|apply IsS54.alloc|apply IsS54.drewN|apply IsS54.drew|apply IsS54.set_0|apply IsS54.set_1|refine IsS54.far ?_ NB0_317.out _|refine IsS54.far ?_ NB0_321.out _));(case side2 => repeat (with_reducible first|exact HB.out|apply za|apply zb|apply zc|refine zd ?_ (IsS54.ge HI0.out)|refine zd ?_ GE317.out|refine zd ?_ GE321.out));rintro e w39 ⟨rfl,hi,hb,hk⟩;refine ⟨_,rfl,?_⟩;replace BK317:=zh (KeepBut.blk hk (g':=gb317) (o:=.cells #[.int .i64 0,.int .i64 0,.string (⟨#[]⟩ : ByteArray)] 33 (0,0)) (by (with_reducible repeat (first|refine ze ?_ _|refine zf ?_|refine zg ?_ _));exact BK317.out) NB317_0.out (by simp));replace BK321:=zh (KeepBut.blk hk (g':=gb321) (o:=.cells #[.int .i64 t318,.int .i64 0,.string (⟨#[]⟩ : ByteArray)] 33 (0,0)) (by (with_reducible repeat (first|refine ze ?_ _|refine zf ?_|refine zg ?_ _));exact BK321.out) NB321_0.out (by simp));replace HK:=zh (KeepBut.trans (by repeat (with_reducible first|exact HK.out|apply yl|apply ym|apply yx|apply yn|refine keep_far ?_ GW317.out _|refine keep_far ?_ GW321.out _)) hk (.inl rfl));replace HB:=zh (hb);replace HI0:=zh (hi);(try clear hb);(try clear hb2);(try clear hk);(try clear hi))|((with_reducible refine zJ (f:=55) rfl ?_);refine yj (some 27) rfl rfl Try.func55 (by kernel_rfl) rfl #[.pointer (some ⟨g,0,none⟩),.int .i64 t328] rfl (by (try simp only [zt,zu,zv]);first|done|rfl|(simp only [zw,zx];rfl)|(simp only [yr,ys,zV,zW];rfl)) ?_;(with_reducible refine (impl_byteReader_take.calls  g t329 t330 t328 t331 t332 t333 w0 _ ?side1 ?side2 A38.out).mono ?_);(case side1 => repeat (with_reducible first|exact HI0.out|apply IsS54.alloc|apply IsS54.drewN|apply IsS54.drew|apply IsS54.set_0|apply IsS54.set_1|refine IsS54.far ?_ NB0_317.out _|refine IsS54.far ?_ NB0_321.out _));(case side2 => repeat (with_reducible first|exact HB.out|apply za|apply zb|apply zc|refine zd ?_ (IsS54.ge HI0.out)|refine zd ?_ GE317.out|refine zd ?_ GE321.out));rintro e w40 ⟨rfl,hi,hb,hk⟩;refine ⟨_,rfl,?_⟩;replace BK317:=zh (KeepBut.blk hk (g':=gb317) (o:=.cells #[.int .i64 0,.int .i64 0,.string (⟨#[]⟩ : ByteArray)] 33 (0,0)) (by (with_reducible repeat (first|refine ze ?_ _|refine zf ?_|refine zg ?_ _));exact BK317.out) NB317_0.out (by simp));replace BK321:=zh (KeepBut.blk hk (g':=gb321) (o:=.cells #[.int .i64 t318,.int .i64 0,.string (⟨#[]⟩ : ByteArray)] 33 (0,0)) (by (with_reducible repeat (first|refine ze ?_ _|refine zf ?_|refine zg ?_ _));exact BK321.out) NB321_0.out (by simp));replace HK:=zh (KeepBut.trans (by repeat (with_reducible first|exact HK.out|apply yl|apply ym|apply yx|apply yn|refine keep_far ?_ GW317.out _|refine keep_far ?_ GW321.out _)) hk (.inl rfl));replace HB:=zh (hb);replace HI0:=zh (hi);(try clear hb);(try clear hb2);(try clear hk);(try clear hi);have hnb41:=NB321_317.out;have hnc41:=NB317_321.out;have hnb42:=NB321_0.out;have hnc42:=NB0_321.out;have hcz43_0 : w40.cell? ⟨gb321,0,none⟩=some (.int .i64 t318):=(zz BK321.out 0).trans rfl;have hcz43_1 : w40.cell? ⟨gb321,1,none⟩=some (.int .i64 0):=(zz BK321.out 1).trans rfl;have hcz43_2 : w40.cell? ⟨gb321,2,none⟩=some (.string (⟨#[]⟩ : ByteArray)):=(zz BK321.out 2).trans rfl;have hfz43_0:=zA BK321.out 0;have hfz43_1:=zA BK321.out 1;have hfz43_2:=zA BK321.out 2;have hnb44:=NB317_0.out;have hnc44:=NB0_317.out;have hcz45_0 : w40.cell? ⟨gb317,0,none⟩=some (.int .i64 0):=(zz BK317.out 0).trans rfl;have hcz45_1 : w40.cell? ⟨gb317,1,none⟩=some (.int .i64 0):=(zz BK317.out 1).trans rfl;have hcz45_2 : w40.cell? ⟨gb317,2,none⟩=some (.string (⟨#[]⟩ : ByteArray)):=(zz BK317.out 2).trans rfl;have hfz45_0:=zA BK317.out 0;have hfz45_1:=zA BK317.out 1;have hfz45_2:=zA BK317.out 2))
    refine bodyPost_ret (results_cell_row rfl _ _ gb317 33 #[.int .i64 t318,.int .i64 0,.string t331] (0,0) _ rfl (by (with_reducible repeat (first|refine ze ?_ _|refine zf ?_|refine zg ?_ _));refine zL (cs:=#[.int .i64 t318,.int .i64 0,.string (⟨#[]⟩ : ByteArray)]) ?_ 2 _ rfl;(with_reducible repeat (first|refine ze ?_ _|refine zf ?_|refine zg ?_ _));refine zL (cs:=#[.int .i64 t318,.int .i64 0,.string (⟨#[]⟩ : ByteArray)]) ?_ 1 _ rfl;(with_reducible repeat (first|refine ze ?_ _|refine zf ?_|refine zg ?_ _));refine zL (cs:=#[.int .i64 0,.int .i64 0,.string (⟨#[]⟩ : ByteArray)]) ?_ 0 _ rfl;(with_reducible repeat (first|refine ze ?_ _|refine zf ?_|refine zg ?_ _));refine zS ?_ NB317_321.out _;(with_reducible repeat (first|refine ze ?_ _|refine zf ?_|refine zg ?_ _));exact BK317.out) Try.underlying33 rfl (by kernel_rfl)) rfl ?_;exact ⟨by first|rfl|(simp [yt,yu] <;> rfl)|(simp [*,yt,yu] <;> rfl),by repeat (with_reducible first|exact HI0.out|apply IsS54.alloc|apply IsS54.drewN|apply IsS54.drew|apply IsS54.set_0|apply IsS54.set_1|refine IsS54.far ?_ NB0_317.out _|refine IsS54.far ?_ NB0_321.out _),by repeat (with_reducible first|exact HB.out|apply za|apply zb|apply zc|refine zd ?_ (IsS54.ge HI0.out)|refine zd ?_ GE317.out|refine zd ?_ GE321.out),by repeat (with_reducible first|exact HK.out|apply yl|apply ym|apply yx|apply yn|refine keep_far ?_ GW317.out _|refine keep_far ?_ GW321.out _)⟩
   replace c36:=yb.mpr c36;subst c36;have H1 : (some (t318,0,(⟨#[]⟩ : ByteArray),t319,t320))=some (r1,r2,r3,r4,r5):=by rw [if_neg (show ¬ (false=true) by decide)] at H;exact H
   clear H;have H:=H1;clear H1;simp only [Option.some.injEq,Prod.mk.injEq] at H;obtain ⟨rfl,rfl,rfl,rfl,rfl⟩:=H;have hnb46:=NB321_317.out;have hnc46:=NB317_321.out;have hnb47:=NB321_0.out;have hnc47:=NB0_321.out;have hcz48_0 : wc.cell? ⟨gb321,0,none⟩=some (.int .i64 t318):=(zz BK321.out 0).trans rfl;have hcz48_1 : wc.cell? ⟨gb321,1,none⟩=some (.int .i64 0):=(zz BK321.out 1).trans rfl;have hcz48_2 : wc.cell? ⟨gb321,2,none⟩=some (.string (⟨#[]⟩ : ByteArray)):=(zz BK321.out 2).trans rfl;have hfz48_0:=zA BK321.out 0;have hfz48_1:=zA BK321.out 1;have hfz48_2:=zA BK321.out 2;have hnb49:=NB317_0.out;have hnc49:=NB0_317.out;have hcz50_0 : wc.cell? ⟨gb317,0,none⟩=some (.int .i64 0):=(zz BK317.out 0).trans rfl;have hcz50_1 : wc.cell? ⟨gb317,1,none⟩=some (.int .i64 0):=(zz BK317.out 1).trans rfl;have hcz50_2 : wc.cell? ⟨gb317,2,none⟩=some (.string (⟨#[]⟩ : ByteArray)):=(zz BK317.out 2).trans rfl;have hfz50_0:=zA BK317.out 0;have hfz50_1:=zA BK317.out 1;have hfz50_2:=zA BK317.out 2
   go_wp2
   refine bodyPost_ret (results_cell_row rfl _ _ gb317 33 #[.int .i64 t318,.int .i64 0,.string (⟨#[]⟩ : ByteArray)] (0,0) _ rfl (by (with_reducible repeat (first|refine ze ?_ _|refine zf ?_|refine zg ?_ _));refine zL (cs:=#[.int .i64 t318,.int .i64 0,.string (⟨#[]⟩ : ByteArray)]) ?_ 2 _ rfl;(with_reducible repeat (first|refine ze ?_ _|refine zf ?_|refine zg ?_ _));refine zL (cs:=#[.int .i64 t318,.int .i64 0,.string (⟨#[]⟩ : ByteArray)]) ?_ 1 _ rfl;(with_reducible repeat (first|refine ze ?_ _|refine zf ?_|refine zg ?_ _));refine zL (cs:=#[.int .i64 0,.int .i64 0,.string (⟨#[]⟩ : ByteArray)]) ?_ 0 _ rfl;(with_reducible repeat (first|refine ze ?_ _|refine zf ?_|refine zg ?_ _));exact BK317.out) Try.underlying33 rfl (by kernel_rfl)) rfl ?_;exact ⟨by first|rfl|(simp [yt,yu] <;> rfl)|(simp [*,yt,yu] <;> rfl),by repeat (with_reducible first|exact HI0.out|apply IsS54.alloc|apply IsS54.drewN|apply IsS54.drew|apply IsS54.set_0|apply IsS54.set_1|refine IsS54.far ?_ NB0_317.out _|refine IsS54.far ?_ NB0_321.out _),by repeat (with_reducible first|exact HB.out|apply za|apply zb|apply zc|refine zd ?_ (IsS54.ge HI0.out)|refine zd ?_ GE317.out|refine zd ?_ GE321.out),by repeat (with_reducible first|exact HK.out|apply yl|apply ym|apply yx|apply yn|refine keep_far ?_ GW317.out _|refine keep_far ?_ GW321.out _)⟩

end Go.Proofs.Ytlljfjpdflcjlaa.Q
end
section
namespace Go.Proofs.Ytlljfjpdflcjlaa.Pure
open Go Go.RowKit Go.Proofs.Ytlljfjpdflcjlaa.Q Go.Proofs.YtlljfjpdflcjlaaW.PrintWords Go.Proofs.YtlljfjpdflcjlaaW.PrintLast Go.Proofs.YtlljfjpdflcjlaaW.PrintMore Go.Proofs.YtlljfjpdflcjlaaW.Pl
theorem wi {i : Nat} (h : i≤9223372036854775806) : wrap64 ((i : Int) + 1)=((i + 1 : Nat) : Int):=w64 (by omega) (by omega)
theorem w64m (y : Int) : wrap64 y=(y + 9223372036854775808) % 18446744073709551616 - 9223372036854775808:=by unfold wrap64;omega
def stp (x b : Int) : Int:=wrap64 (wrap64 (x * 256) + wrap64 b)
theorem or_byte (x b : Int) (h0 : 0≤b) (h1 : b≤255) : Go.bits .or .i64 (wrap64 (x * 256)) (wrap64 b)=stp x b:=by
 have e1 : (BitVec.ofInt 64 (wrap64 (x * 256))).toNat=2 ^ 8 * (x % 72057594037927936).toNat:=by
  rw [BitVec.toNat_ofInt,w64m];omega
 have e2 : (BitVec.ofInt 64 (wrap64 b)).toNat=b.toNat:=by
  rw [BitVec.toNat_ofInt,w64m];omega
 have e3 : (BitVec.ofInt 64 (wrap64 (x * 256)) ||| BitVec.ofInt 64 (wrap64 b)).toNat=2 ^ 8 * (x % 72057594037927936).toNat + b.toNat:=by
  rw [BitVec.toNat_or,e1,e2,Nat.two_pow_add_eq_or_of_lt (by omega)]
 show IntKind.wrap .i64 ((BitVec.ofInt 64 (wrap64 (x * 256)) ||| BitVec.ofInt 64 (wrap64 b)).toNat : Int)=_;rw [e3,i64_w];unfold stp;rw [w64m,w64m,w64m,w64m]
 omega
def bigV (l : List Int) : Int:=l.foldl stp 0
theorem bytes_in (a : ByteArray) : ∀ b ∈ bytesOf a,0≤b∧b≤255:=by
 intro b hb;obtain ⟨c,_,rfl⟩:=List.mem_map.1 hb;have:=c.toNat_lt
 omega
theorem bt_get (a : ByteArray) (i : Nat) (h : i<(bytesOf a).length) : bt a (i : Int)=(bytesOf a)[i]:=by
 rw [← rd_bytesOf,rd_at _ _ h]
theorem big_tells (l : List Int) (hl : l.length≤1048576) (hb : ∀ b ∈ l,0≤b∧b≤255) : Eve (fun k => impl_big.f k l) (bigV l):=by
 simp only [impl_big.f];refine ev_loop0 l (fun k (s : Int) i => impl_big.l0 k s l (l.length : Int) i) (fun _ s r => r.foldl stp s) (fun _ _ => True) (fun s _ => ?_) (fun i hi s _ ih => ?_) 0 trivial
 ·
  simp only [impl_big.l0]
  exact Eve.ite (fun h => absurd h (by omega)) (fun _ => Eve.one)
 have hx:=hb l[i] (List.getElem_mem hi);simp only [impl_big.l0];refine Eve.ite (fun _ => ?_) (fun h => absurd (by omega) h);refine Eve.ite (fun _ => ?_) (fun h => absurd (by omega) h);refine Eve.ite (fun _ => ?_) (fun h => absurd (by omega) h);simp only [rd_at _ _ hi,or_byte _ _ hx.1 hx.2,wi (show i≤9223372036854775806 by omega)];exact ih _ trivial
def zer (n : Nat) : ByteArray:=⟨(Lib.repeatL [0] n).toArray⟩
def takV (a : ByteArray) (f : Bool) (n : Nat) : ByteArray×ByteArray×Bool:=if a.size<n then (zer n,a,true) else (a.extract 0 n,a.extract n a.size,f)
def numV (a : ByteArray) (f : Bool) (n : Nat) : Int×ByteArray×Bool:=if a.size<n then (0,a,true) else (bigV (bytesOf (a.extract 0 n)),a.extract n a.size,f)
theorem take_tells (a : ByteArray) (f : Bool) (n : Nat) (hn : n≤65535) : impl_byteReader_take.f a f (n : Int)=some (takV a f n):=by
 unfold impl_byteReader_take.f takV
 by_cases h : a.size<n
 ·
  rw [if_pos (by omega),if_pos h]
  unfold strings_Repeat.f;rw [if_pos (by omega),if_pos (by rw [show (⟨#[0]⟩ : ByteArray).size=1 from rfl];omega),if_pos (by omega)]
  rfl
 rw [if_neg (by omega),if_pos (by omega),if_pos (by omega),if_neg h]
 rfl
theorem zer_size (n : Nat) : (zer n).size=n:=by
 show (Lib.repeatL [0] n).toArray.size=n;rw [List.size_toArray,Lib.repeatL_length];simp
theorem fold_zero : ∀ n : Nat,((Lib.repeatL [0] n).map fun b : UInt8 => (b.toNat : Int)).foldl stp 0=0
 | 0 => rfl
 | n + 1 => by
  have e : stp 0 0=0:=by unfold stp;rw [w64m,w64m,w64m];omega
  simp only [Lib.repeatL,List.cons_append,List.nil_append,List.map_cons,List.foldl_cons];rw [show ((0 : UInt8).toNat : Int)=0 from rfl,e];exact fold_zero n
theorem big_zer (n : Nat) : bigV (bytesOf (zer n))=0:=by
 unfold bigV bytesOf zer;exact fold_zero n
theorem num_tells (a : ByteArray) (f : Bool) (n : Nat) (hn : n≤65535) : Eve (fun k => impl_byteReader_num.f k a f (n : Int)) (numV a f n):=by
 simp only [impl_byteReader_num.f,take_tells a f n hn,Option.bind_some];unfold takV numV
 by_cases h : a.size<n
 ·
  simp only [if_pos h]
  have hz:=zer_size n;refine Eve.ite (fun _ => ?_) (fun h => absurd (by omega) h);refine Eve.bind (big_tells _ (by rw [bytesOf_length,hz];omega) (bytes_in _)) ?_;rw [big_zer];exact Eve.one
 simp only [if_neg h];have hz : (a.extract 0 n).size≤n:=by rw [ByteArray.size_extract];omega
 refine Eve.ite (fun _ => ?_) (fun h => absurd (by omega) h);exact Eve.bind (big_tells _ (by rw [bytesOf_length];omega) (bytes_in _)) Eve.one
theorem big1 (x : Int) (h : 0≤x∧x≤255) : bigV [x]=x:=by
 simp only [bigV,List.foldl_cons,List.foldl_nil,stp];rw [w64m,w64m,w64m];omega
abbrev IVal:=S33
abbrev eB : ByteArray:=⟨#[]⟩
abbrev Rd:=Int×Int×ByteArray×ByteArray×Bool
def valV (a : ByteArray) (f : Bool) : Rd :=
  let q:=numV a f 1
  if q.1=1 then (q.1,(numV q.2.1 q.2.2 1).1,eB,(numV q.2.1 q.2.2 1).2.1,(numV q.2.1 q.2.2 1).2.2)
  else if q.1=2 then (q.1,wrap64 ((numV q.2.1 q.2.2 8).1 - 4611686018427387904),eB,(numV q.2.1 q.2.2 8).2.1,(numV q.2.1 q.2.2 8).2.2)
  else if q.1=3∨q.1=4∨q.1=5 then
    let r:=numV q.2.1 q.2.2 2
    (q.1,0,(takV r.2.1 r.2.2 r.1.toNat).1,(takV r.2.1 r.2.2 r.1.toNat).2.1,(takV r.2.1 r.2.2 r.1.toNat).2.2)
  else (q.1,0,eB,q.2.1,q.2.2)
def nxtV (a : ByteArray) : Option (IVal×ByteArray) :=
  if a.size=0 then none
  else if bt a 0=0 then some (⟨0,0,eB⟩,a.extract 1 a.size)
  else if bt a 0=1 then (if a.size<2 then none else some (⟨1,bt a 1,eB⟩,a.extract 2 a.size))
  else if bt a 0=2 then (if a.size<9 then none else if bt a 1 > 127 then none else some (⟨2,wrap64 (bigV (bytesOf (a.extract 1 9)) - 4611686018427387904),eB⟩,a.extract 9 a.size))
  else if bt a 0=3∨bt a 0=4∨bt a 0=5 then
    (if a.size<3 then none else if (a.size : Int)<3 + bigV (bytesOf (a.extract 1 3)) then none
     else some (⟨bt a 0,0,a.extract 3 (3 + bigV (bytesOf (a.extract 1 3))).toNat⟩,a.extract (3 + bigV (bytesOf (a.extract 1 3))).toNat a.size))
  else none
def told (o : Option (IVal×ByteArray)) : Rd:=match o with|some (v,r) => (v.f0,v.f1,v.f2,r,true)|none => (0,0,eB,eB,false)
def Bad (v : IVal) : Prop:=v.f0<0∨v.f0 > 5∨(v.f0=2∧(v.f1 < -1000000000000∨v.f1 > 1000000000000))
def rdv (r : Rd) : IVal:=⟨r.1,r.2.1,r.2.2.1⟩
end Go.Proofs.Ytlljfjpdflcjlaa.Pure
end
section
namespace Go.Proofs.Ytlljfjpdflcjlaa.Q
open Go.RowKit Go.Proofs.YtlljfjpdflcjlaaW.PrintWords Go.Proofs.YtlljfjpdflcjlaaW.PrintLast Go.Proofs.YtlljfjpdflcjlaaW.PrintMore
attribute [local go_sem] max2_int min2_int max_two min_two max_three min_three max_four min_four max2_str min2_str str_geq str_gtr str_leq   -- for this text's walks alone
set_option linter.unusedVariables false
set_option linter.unusedSimpArgs false

def spec_l01Fields.l0 : Nat→ByteArray→List (S84)→Option ((List (S84))×Bool)
 | 0,_,_ => none
 | k + 1,x0,x4 => if (x0.size : Int) > 0 then (if 0<(x0.size : Int) then (if (x0.size : Int)<(wrap64 (1 + (wrap64 (bt x0 0)))) then (some ((([] : List (S84))),false)) else (if 1≤(wrap64 (1 + (wrap64 (bt x0 0)))) then (if (wrap64 (1 + (wrap64 (bt x0 0))))≤(x0.size : Int) then (if 0≤(wrap64 (1 + (wrap64 (bt x0 0)))) then ((spec_l01Next.f k (x0.extract ((wrap64 (1 + (wrap64 (bt x0 0)))) : Int).toNat x0.size)).bind fun bt239 => (if bt239.2.2.2.2=true then (if x4.length<2932031007402 then (spec_l01Fields.l0 k bt239.2.2.2.1 (x4 ++ [(⟨x0.extract 1 ((wrap64 (1 + (wrap64 (bt x0 0)))) : Int).toNat,(⟨bt239.1,bt239.2.1,bt239.2.2.1⟩ : S33)⟩ : S84)])) else (none)) else (some ((([] : List (S84))),false)))) else (none)) else (none)) else (none))) else (none)) else (some (x4,true))
def spec_l01Fields.f (k : Nat) (a0 : ByteArray) : Option ((List (S84))×Bool):=spec_l01Fields.l0 k a0 (([] : List (S84)))
theorem spec_l01Fields.mono_l : ∀ k,(∀ y0 y1,LeO (spec_l01Fields.l0 k y0 y1) (spec_l01Fields.l0 (k + 1) y0 y1))
 | 0 => fun _ _ r h => by simp [spec_l01Fields.l0] at h
 | k + 1 => by
  have ih0:=spec_l01Fields.mono_l k;intro y0 y1;unfold spec_l01Fields.l0
  repeat' first|(with_reducible exact ih0 _ _)|(with_reducible exact spec_l01Next.mono _ _)|(with_reducible exact zQ _)|(with_reducible exact zN _)|(with_reducible refine zP ?_ ?_)|(with_reducible refine zO ?_ (fun _ => ?_))|refine zP ?_ ?_|refine zO ?_ (fun _ => ?_)
theorem spec_l01Fields.mono : ∀ a0 k,LeO (spec_l01Fields.f k a0) (spec_l01Fields.f (k + 1) a0):=by
 intro a0 k;have ih0:=spec_l01Fields.mono_l k;unfold spec_l01Fields.f
 repeat' first|(with_reducible exact ih0 _ _)|(with_reducible exact spec_l01Next.mono _ _)|(with_reducible exact zQ _)|(with_reducible exact zN _)|(with_reducible refine zP ?_ ?_)|(with_reducible refine zO ?_ (fun _ => ?_))|refine zP ?_ ?_|refine zO ?_ (fun _ => ?_)
set_option maxHeartbeats 8000000 in
set_option maxRecDepth 100000 in
theorem spec_l01Fields.calls (k : Nat) (a0 : ByteArray) (r1 : List (S84)) (r2 : Bool) (w : World) (h : spec_l01Fields.f k a0=some (r1,r2)) :
  Calls Try.prog 67 #[.string a0] w fun e w' => ∃ v0_ : Value,e = .returned (.tuple #[v0_,.bool r2])∧Kd.R k84 84 w' w.heap.size (fun _ => True) v0_ r1∧Below w.heap.size w w':=by
 have hu33:=Try.underlying33;have hu84:=Try.underlying84;have HB:=zh (Below.refl w.heap.size w);have H : (spec_l01Fields.l0 k a0 (([] : List (S84))))=some (r1,r2):=h;clear h;obtain ⟨y233,hy233⟩ : ∃ y_ : List (S84),y_=(([] : List (S84))):=⟨_,rfl⟩;replace H : (spec_l01Fields.l0 k a0 y233)=some (r1,r2):=by first|(rw [hy233];with_reducible exact H)|(have H2_:=(Option.bind_some _ _).symm.trans H;rw [hy233];with_reducible exact H2_)|(have H2_:=(Option.bind_some _ _).symm.trans H;with_reducible exact H2_)|with_reducible exact H|(rw [hy233];exact H)|exact H
 have Ny233:=zh hy233;clear hy233;have H':=zh H;clear H
 go_enter Try.func67,Try.ntmps67
 go_wp2_with (first|((with_reducible refine zK (N:=10) rfl ?_);refine Kd.R_lit k84 _ 84 ?hg (N:=10) ?hd (xs:=([] : List (S84))) (inner:=[]) (ok:=fun _ => True) (okp:=fun _ => True) ?hr ?hp (fun _ hk => hk) trivial (Below.refl _ _) (ye _) (by simp) ?_;(case hd => rfl);(case hg => rfl);(case hr => first|(go_simp;done)|(go_simp;rfl));(case hp => exact (Reps.none _ _));intro v234 w2 ho3 hb hg_ hnew_;clear hg_ hnew_;(first|rw [← Ny233.out] at ho3|(simp only [Int.reduceToNat] at ho3;rw [← Ny233.out] at ho3));have HO235:=zh (yy ho3 (zB (by repeat (with_reducible first|exact HB.out|apply za|apply zb|apply zc))));replace HB:=zh (zC (by repeat (with_reducible first|exact HB.out|apply za|apply zb|apply zc)) hb);clear hb ho3))
 go_loopg [0,4] k (fun kq v0 v4 w' => ∃ (x0_1 : ByteArray) (x4_1 : List (S84)),v0 = .string x0_1∧Aside0 (spec_l01Fields.l0 kq x0_1 x4_1=some (r1,r2))∧Aside0 (kq≤k)∧Aside0 (Kd.R k84 84 w' w.heap.size (fun _ => True) v4 x4_1)∧Aside0 (Below w.heap.size w w'))
 case atStart => exact ⟨(a0),(y233),(by first|rfl|(simp;done)|(simp [*];done)),H',⟨ye _⟩,⟨by (with_reducible repeat (first|apply zm|apply zn|apply zo));exact HO235.out⟩,⟨by repeat (with_reducible first|exact HB.out|apply za|apply zb|apply zc)⟩⟩
 case round =>
  clear H'
  try clear p2
  obtain ⟨x0_1,x4_1,rfl,HA,HK1,HO_4,HB⟩:=hrel
  cases gk with
  | zero => exact absurd HA.out (by simp [spec_l01Fields.l0])
  | succ k1 =>
   have H:=HA.out;clear HA;simp only [spec_l01Fields.l0] at H
   by_cases c4 : (x0_1.size : Int) > 0
   ·
    rw [if_pos c4] at H
    have c4b0 : decide (0<(x0_1.size : Int))=true:=decide_eq_true c4;have c4b1 : decide (0<x0_1.size)=true:=decide_eq_true (by omega);clear c4
    by_cases c5 : 0<(x0_1.size : Int)
    ·
     rw [if_pos c5] at H
     have c5b0 : decide (0<(x0_1.size : Int))=true:=decide_eq_true c5;have c5b1 : decide (0<x0_1.size)=true:=decide_eq_true (by omega);clear c5
     by_cases c7 : (x0_1.size : Int)<(wrap64 (1 + (wrap64 (bt x0_1 0))))
     ·
      rw [if_pos c7] at H
      have c7b0 : decide ((x0_1.size : Int)<(wrap64 (1 + (wrap64 (bt x0_1 0)))))=true:=decide_eq_true c7;clear c7;obtain ⟨y236,hy236⟩ : ∃ y_ : List (S84),y_=(([] : List (S84))):=⟨_,rfl⟩;replace H : (some (y236,false))=some (r1,r2):=by first|(rw [hy236];with_reducible exact H)|(have H2_:=(Option.bind_some _ _).symm.trans H;rw [hy236];with_reducible exact H2_)|(have H2_:=(Option.bind_some _ _).symm.trans H;with_reducible exact H2_)|with_reducible exact H|(rw [hy236];exact H)|exact H
      have Ny236:=zh hy236;clear hy236;simp only [Option.some.injEq,Prod.mk.injEq] at H;obtain ⟨rfl,rfl⟩:=H;have p6 : 0≤(0 : Int):=(by omega);have q6 : 0<x0_1.size:=(by have : (0 : Int)<(x0_1.size : Int):=zy (by first|(with_reducible assumption)|assumption);omega);have hx6 : ∀ h : 0<x0_1.size,((x0_1[0]'h).toNat : Int)=bt x0_1 0:=bt_at x0_1 0;clear p6;have qi6 : (0<(x0_1.size : Int))=True:=eq_true (zy (by first|(with_reducible assumption)|assumption));replace q6:=eq_true q6
      go_wp2_with (first|((with_reducible refine zK (N:=22) rfl ?_);refine Kd.R_lit k84 _ 84 ?hg (N:=22) ?hd (xs:=([] : List (S84))) (inner:=[]) (ok:=fun _ => True) (okp:=fun _ => True) ?hr ?hp (fun _ hk => hk) trivial (Below.refl _ _) (ye _) (by simp) ?_;(case hd => rfl);(case hg => rfl);(case hr => first|(go_simp;done)|(go_simp;rfl));(case hp => exact (Reps.none _ _));intro v237 w8 ho9 hb hg_ hnew_;clear hg_ hnew_;(first|rw [← Ny236.out] at ho9|(simp only [Int.reduceToNat] at ho9;rw [← Ny236.out] at ho9));have HO238:=zh (yy (Kd.R_new' ho9 (Kd.R_lt (by (with_reducible repeat (first|apply zm|apply zn|apply zo));exact HO_4.out))) (zB (by repeat (with_reducible first|exact HB.out|apply za|apply zb|apply zc))));replace HO_4:=zh (Kd.R_elder' (by (with_reducible repeat (first|apply zm|apply zn|apply zo));exact HO_4.out) (Kd.R_base ho9) hb);replace HB:=zh (zC (by repeat (with_reducible first|exact HB.out|apply za|apply zb|apply zc)) hb);clear hb ho9))
      go_ret2
      exact ⟨_,by first|rfl|(simp [yt,yu] <;> rfl)|(simp [*,yt,yu] <;> rfl),by (with_reducible repeat (first|apply zm|apply zn|apply zo));exact zM HO238.out (fun _ hk => trivial),by repeat (with_reducible first|exact HB.out|apply za|apply zb|apply zc)⟩
     rw [if_neg c7] at H;have c7b0 : decide ((x0_1.size : Int)<(wrap64 (1 + (wrap64 (bt x0_1 0)))))=false:=decide_eq_false c7;clear c7
     by_cases c10 : 1≤(wrap64 (1 + (wrap64 (bt x0_1 0))))
     ·
      rw [if_pos c10] at H
      have c10b0:=eq_true c10;have c10b1 : decide (1≤(wrap64 (1 + (wrap64 (bt x0_1 0)))))=true:=decide_eq_true c10
      by_cases c11 : (wrap64 (1 + (wrap64 (bt x0_1 0))))≤(x0_1.size : Int)
      ·
       rw [if_pos c11] at H
       have c11b0:=eq_true c11;have c11b1 : decide ((wrap64 (1 + (wrap64 (bt x0_1 0))))≤(x0_1.size : Int))=true:=decide_eq_true c11;obtain ⟨ji12,hji12⟩ : ∃ j_ : Int,(wrap64 (1 + (wrap64 (bt x0_1 0))))=j_:=⟨_,rfl⟩;replace H : (if 0≤(ji12) then ((spec_l01Next.f k1 (x0_1.extract ((ji12) : Int).toNat x0_1.size)).bind fun bt239 => (if bt239.2.2.2.2=true then (if x4_1.length<2932031007402 then (spec_l01Fields.l0 k1 bt239.2.2.2.1 (x4_1 ++ [(⟨x0_1.extract 1 ((ji12) : Int).toNat,(⟨bt239.1,bt239.2.1,bt239.2.2.1⟩ : S33)⟩ : S84)])) else (none)) else (some ((([] : List (S84))),false)))) else (none))=some (r1,r2):=by first|(rw [hji12] at H;exact H)|(simp only [hji12] at H ⊢;exact H)
       (try rw [hji12] at c7b0);(try rw [hji12] at c10b0);(try rw [hji12] at c10b1);(try rw [hji12] at c10);(try rw [hji12] at c11b0);(try rw [hji12] at c11b1);(try rw [hji12] at c11);have hji12w : (IntKind.i64.wrap (1 + (wrap64 (bt x0_1 0))))=ji12:=(zG _).trans hji12
       by_cases c13 : 0≤(ji12)
       ·
        rw [if_pos c13] at H
        have c13b0:=eq_true c13;have c13b1 : decide (0≤(ji12))=true:=decide_eq_true c13;clear c13;have c14b0:=eq_true (zy (by first|(with_reducible assumption)|assumption) : (ji12)≤(x0_1.size : Int));replace H:=zT.mp H;obtain ⟨⟨t239,t240,t241,t242,t243⟩,A150,H⟩:=H;replace H : (if t243=true then (if x4_1.length<2932031007402 then (spec_l01Fields.l0 k1 t242 (x4_1 ++ [(⟨x0_1.extract 1 ((ji12) : Int).toNat,(⟨t239,t240,t241⟩ : S33)⟩ : S84)])) else (none)) else (some ((([] : List (S84))),false)))=some (r1,r2):=H;have A15:=zh A150;clear A150
        by_cases c16 : t243=true
        ·
         subst c16
         have H1 : (if x4_1.length<2932031007402 then (spec_l01Fields.l0 k1 t242 (x4_1 ++ [(⟨x0_1.extract 1 ((ji12) : Int).toNat,(⟨t239,t240,t241⟩ : S33)⟩ : S84)])) else (none))=some (r1,r2):=by rw [if_pos rfl] at H;exact H
         clear H;have H:=H1;clear H1
         by_cases c17 : x4_1.length<2932031007402
         ·
          rw [if_pos c17] at H
          have LMc17:=zh c17;clear c17;obtain ⟨y245,hy245⟩ : ∃ y_ : List (S84),y_=(x4_1 ++ [(⟨x0_1.extract 1 ((ji12) : Int).toNat,(⟨t239,t240,t241⟩ : S33)⟩ : S84)]):=⟨_,rfl⟩;replace H : (spec_l01Fields.l0 k1 t242 y245)=some (r1,r2):=by first|(rw [hy245];with_reducible exact H)|(have H2_:=(Option.bind_some _ _).symm.trans H;rw [hy245];with_reducible exact H2_)|(have H2_:=(Option.bind_some _ _).symm.trans H;with_reducible exact H2_)|with_reducible exact H|(rw [hy245];exact H)|exact H
          have Ny245:=zh hy245;clear hy245;have H':=zh H;clear H;have p6 : 0≤(0 : Int):=(by omega);have q6 : 0<x0_1.size:=(by have : (0 : Int)<(x0_1.size : Int):=zy (by first|(with_reducible assumption)|assumption);omega);have hx6 : ∀ h : 0<x0_1.size,((x0_1[0]'h).toNat : Int)=bt x0_1 0:=bt_at x0_1 0;clear p6;have qi6 : (0<(x0_1.size : Int))=True:=eq_true (zy (by first|(with_reducible assumption)|assumption));replace q6:=eq_true q6
          go_wp2_with (first|((with_reducible refine zJ (f:=104) rfl ?_);refine yj (some 32) rfl rfl Try.func104 (by kernel_rfl) rfl #[.string (x0_1.extract ((ji12) : Int).toNat x0_1.size)] rfl (by (try simp only [zt,zu,zv]);first|done|(simp only [hji12];rfl)|rfl|(simp only [zw,zx];rfl)|(simp only [yr,ys,zV,zW];rfl)) ?_;(with_reducible refine (spec_l01Next.calls k1  (x0_1.extract ((ji12) : Int).toNat x0_1.size) t239 t240 t241 t242 true _ A15.out).mono ?_);rintro e w18 ⟨rfl,hb⟩;refine ⟨_,rfl,?_⟩;replace HO_4:=zh (yg (by (with_reducible repeat (first|apply zm|apply zn|apply zo));exact HO_4.out) hb);replace HB:=zh (zC (by repeat (with_reducible first|exact HB.out|apply za|apply zb|apply zc)) hb);(try clear hb);(try clear hb2);(try clear hk);(try clear hi))|((with_reducible refine zK (N:=7) rfl ?_);refine zI ?hg (N:=7) ?hd (cs:=#[.int .i64 0,.int .i64 0,.string (⟨#[]⟩ : ByteArray)]) (t:=33) ?hr ?_;(case hd => rfl);(case hg => rfl);(case hr => first|(go_simp;done)|(go_simp;rfl));intro gb244 hg w19 hbox hb;replace HO_4:=zh (yg (by (with_reducible repeat (first|apply zm|apply zn|apply zo));exact HO_4.out) hb);have BK244:=zh (hbox);have GW244:=zh ((by rw [hg];exact (zB (by repeat (with_reducible first|exact HB.out|apply za|apply zb|apply zc))) : w.heap.size≤gb244));have GE244:=zh ((by rw [hg];exact (zB (by repeat (with_reducible first|exact HB.out|apply za|apply zb|apply zc))) : w.heap.size≤gb244));replace HB:=zh (zC (by repeat (with_reducible first|exact HB.out|apply za|apply zb|apply zc)) hb);clear hb hbox hg;have hcz20_0 : w19.cell? ⟨gb244,0,none⟩=some (.int .i64 0):=(zz BK244.out 0).trans rfl;have hcz20_1 : w19.cell? ⟨gb244,1,none⟩=some (.int .i64 0):=(zz BK244.out 1).trans rfl;have hcz20_2 : w19.cell? ⟨gb244,2,none⟩=some (.string (⟨#[]⟩ : ByteArray)):=(zz BK244.out 2).trans rfl;have hfz20_0:=zA BK244.out 0;have hfz20_1:=zA BK244.out 1;have hfz20_2:=zA BK244.out 2)|((with_reducible refine yB (b:=.append) (xs:=#[.tmp 39,.tmp 43]) rfl ?_);at_builtin;refine Kd.R_append k84 (w0:=w) w.heap.size rfl (.tmp 39) (.tmp 43) 80 84 (.agg #[(.string ⟨#[]⟩),(.int .i64 0),(.int .i64 0),(.string ⟨#[]⟩)]) 48 rfl Try.underlying80 info84 rfl (by decide) (by omega) u4 x4_1 (⟨x0_1.extract 1 ((ji12) : Int).toNat,(⟨t239,t240,t241⟩ : S33)⟩ : S84) [.string (x0_1.extract 1 ((ji12) : Int).toNat),.int .i64 t239,.int .i64 t240,.string t241] (fun _ => True) (fun _ => False) rfl (by first|(go_simp;done)|(go_simp;rfl)) ?aP (fun _ hk => hk.elim) ?aF ?aO ?aB ?aS ?aL ?_;(case aP => exact k84_mkM _ _ _ (⟨x0_1.extract 1 ((ji12) : Int).toNat,(⟨t239,t240,t241⟩ : S33)⟩ : S84));(case aB => exact (by repeat (with_reducible first|exact HB.out|apply za|apply zb|apply zc|refine zd ?_ GE244.out)));(case aF => exact (fun _ _ => trivial));(case aO => exact (by (with_reducible repeat (first|apply zm|apply zn|apply zo));exact zM (zE (p:=⟨gb244,2,none⟩) (zE (p:=⟨gb244,1,none⟩) (zE (p:=⟨gb244,0,none⟩) (yf HO_4.out BK244.out (by decide)) (fun _ hk => hk.2) (.int .i64 t239)) (fun _ hk => hk.2) (.int .i64 t240)) (fun _ hk => hk.2) (.string t241)) (fun _ hk => trivial)));(case aS => exact (zB (by repeat (with_reducible first|exact HB.out|apply za|apply zb|apply zc|refine zd ?_ GE244.out))));(case aL => have:=LMc17.out;omega);intro v246 w21 ho hb hg hat;rw [← Ny245.out] at ho;replace BK244:=zh (yw (g:=gb244) (o:=.cells #[.int .i64 t239,.int .i64 t240,.string t241] 33 (0,0)) (by (with_reducible repeat (first|refine ze ?_ _|refine zf ?_|refine zg ?_ _));refine zL (cs:=#[.int .i64 t239,.int .i64 t240,.string (⟨#[]⟩ : ByteArray)]) ?_ 2 _ rfl;(with_reducible repeat (first|refine ze ?_ _|refine zf ?_|refine zg ?_ _));refine zL (cs:=#[.int .i64 t239,.int .i64 0,.string (⟨#[]⟩ : ByteArray)]) ?_ 1 _ rfl;(with_reducible repeat (first|refine ze ?_ _|refine zf ?_|refine zg ?_ _));refine zL (cs:=#[.int .i64 0,.int .i64 0,.string (⟨#[]⟩ : ByteArray)]) ?_ 0 _ rfl;(with_reducible repeat (first|refine ze ?_ _|refine zf ?_|refine zg ?_ _));exact BK244.out) hg (Kd.R_ne HO_4.out BK244.out (by decide)));replace HB:=zh (hb);have HO247:=zh (ho);clear HO_4 ho hb hg hat))
          go_roundg k1
          case measure => have:=HK1.out;omega
          case rel => exact ⟨(t242),(y245),(by first|rfl|(simp;done)|(simp [*];done)),H',⟨by have:=HK1.out;omega⟩,⟨by (with_reducible repeat (first|apply zm|apply zn|apply zo));exact HO247.out⟩,⟨by repeat (with_reducible first|exact HB.out|apply za|apply zb|apply zc|refine zd ?_ GE244.out)⟩⟩
         rw [if_neg c17] at H;exact absurd H (by simp)
        replace c16:=yb.mpr c16;subst c16;have H1 : (some ((([] : List (S84))),false))=some (r1,r2):=by rw [if_neg (show ¬ (false=true) by decide)] at H;exact H
        clear H;have H:=H1;clear H1;obtain ⟨y248,hy248⟩ : ∃ y_ : List (S84),y_=(([] : List (S84))):=⟨_,rfl⟩;replace H : (some (y248,false))=some (r1,r2):=by first|(rw [hy248];with_reducible exact H)|(have H2_:=(Option.bind_some _ _).symm.trans H;rw [hy248];with_reducible exact H2_)|(have H2_:=(Option.bind_some _ _).symm.trans H;with_reducible exact H2_)|with_reducible exact H|(rw [hy248];exact H)|exact H
        have Ny248:=zh hy248;clear hy248;simp only [Option.some.injEq,Prod.mk.injEq] at H;obtain ⟨rfl,rfl⟩:=H;have p6 : 0≤(0 : Int):=(by omega);have q6 : 0<x0_1.size:=(by have : (0 : Int)<(x0_1.size : Int):=zy (by first|(with_reducible assumption)|assumption);omega);have hx6 : ∀ h : 0<x0_1.size,((x0_1[0]'h).toNat : Int)=bt x0_1 0:=bt_at x0_1 0;clear p6;have qi6 : (0<(x0_1.size : Int))=True:=eq_true (zy (by first|(with_reducible assumption)|assumption));replace q6:=eq_true q6
        go_wp2_with (first|((with_reducible refine zJ (f:=104) rfl ?_);refine yj (some 32) rfl rfl Try.func104 (by kernel_rfl) rfl #[.string (x0_1.extract ((ji12) : Int).toNat x0_1.size)] rfl (by (try simp only [zt,zu,zv]);first|done|(simp only [hji12];rfl)|rfl|(simp only [zw,zx];rfl)|(simp only [yr,ys,zV,zW];rfl)) ?_;(with_reducible refine (spec_l01Next.calls k1  (x0_1.extract ((ji12) : Int).toNat x0_1.size) t239 t240 t241 t242 false _ A15.out).mono ?_);rintro e w22 ⟨rfl,hb⟩;refine ⟨_,rfl,?_⟩;replace HO_4:=zh (yg (by (with_reducible repeat (first|apply zm|apply zn|apply zo));exact HO_4.out) hb);replace HB:=zh (zC (by repeat (with_reducible first|exact HB.out|apply za|apply zb|apply zc)) hb);(try clear hb);(try clear hb2);(try clear hk);(try clear hi))|((with_reducible refine zK (N:=7) rfl ?_);refine zI ?hg (N:=7) ?hd (cs:=#[.int .i64 0,.int .i64 0,.string (⟨#[]⟩ : ByteArray)]) (t:=33) ?hr ?_;(case hd => rfl);(case hg => rfl);(case hr => first|(go_simp;done)|(go_simp;rfl));intro gb244 hg w23 hbox hb;replace HO_4:=zh (yg (by (with_reducible repeat (first|apply zm|apply zn|apply zo));exact HO_4.out) hb);have BK244:=zh (hbox);have GW244:=zh ((by rw [hg];exact (zB (by repeat (with_reducible first|exact HB.out|apply za|apply zb|apply zc))) : w.heap.size≤gb244));have GE244:=zh ((by rw [hg];exact (zB (by repeat (with_reducible first|exact HB.out|apply za|apply zb|apply zc))) : w.heap.size≤gb244));replace HB:=zh (zC (by repeat (with_reducible first|exact HB.out|apply za|apply zb|apply zc)) hb);clear hb hbox hg;have hcz24_0 : w23.cell? ⟨gb244,0,none⟩=some (.int .i64 0):=(zz BK244.out 0).trans rfl;have hcz24_1 : w23.cell? ⟨gb244,1,none⟩=some (.int .i64 0):=(zz BK244.out 1).trans rfl;have hcz24_2 : w23.cell? ⟨gb244,2,none⟩=some (.string (⟨#[]⟩ : ByteArray)):=(zz BK244.out 2).trans rfl;have hfz24_0:=zA BK244.out 0;have hfz24_1:=zA BK244.out 1;have hfz24_2:=zA BK244.out 2)|((with_reducible refine zK (N:=38) rfl ?_);refine Kd.R_lit k84 _ 84 ?hg (N:=38) ?hd (xs:=([] : List (S84))) (inner:=[]) (ok:=fun _ => True) (okp:=fun _ => True) ?hr ?hp (fun _ hk => hk) trivial (Below.refl _ _) (ye _) (by simp) ?_;(case hd => rfl);(case hg => rfl);(case hr => first|(go_simp;done)|(go_simp;rfl));(case hp => exact (Reps.none _ _));intro v249 w25 ho26 hb hg_ hnew_;clear hg_ hnew_;(first|rw [← Ny248.out] at ho26|(simp only [Int.reduceToNat] at ho26;rw [← Ny248.out] at ho26));have HO250:=zh (yy (Kd.R_new' ho26 (Kd.R_lt (by (with_reducible repeat (first|apply zm|apply zn|apply zo));exact (zM (zE (p:=⟨gb244,2,none⟩) (zE (p:=⟨gb244,1,none⟩) (zE (p:=⟨gb244,0,none⟩) (yf HO_4.out BK244.out (by decide)) (fun _ hk => hk.2) (.int .i64 t239)) (fun _ hk => hk.2) (.int .i64 t240)) (fun _ hk => hk.2) (.string t241)) (fun _ h_ => h_.1))))) (zB (by repeat (with_reducible first|exact HB.out|apply za|apply zb|apply zc|refine zd ?_ GE244.out))));replace HO_4:=zh (Kd.R_elder' (by (with_reducible repeat (first|apply zm|apply zn|apply zo));exact (zM (zE (p:=⟨gb244,2,none⟩) (zE (p:=⟨gb244,1,none⟩) (zE (p:=⟨gb244,0,none⟩) (yf HO_4.out BK244.out (by decide)) (fun _ hk => hk.2) (.int .i64 t239)) (fun _ hk => hk.2) (.int .i64 t240)) (fun _ hk => hk.2) (.string t241)) (fun _ h_ => h_.1))) (Kd.R_base ho26) hb);replace BK244:=zh (zD (g:=gb244) (o:=.cells #[.int .i64 t239,.int .i64 t240,.string t241] 33 (0,0)) (by (with_reducible repeat (first|refine ze ?_ _|refine zf ?_|refine zg ?_ _));refine zL (cs:=#[.int .i64 t239,.int .i64 t240,.string (⟨#[]⟩ : ByteArray)]) ?_ 2 _ rfl;(with_reducible repeat (first|refine ze ?_ _|refine zf ?_|refine zg ?_ _));refine zL (cs:=#[.int .i64 t239,.int .i64 0,.string (⟨#[]⟩ : ByteArray)]) ?_ 1 _ rfl;(with_reducible repeat (first|refine ze ?_ _|refine zf ?_|refine zg ?_ _));refine zL (cs:=#[.int .i64 0,.int .i64 0,.string (⟨#[]⟩ : ByteArray)]) ?_ 0 _ rfl;(with_reducible repeat (first|refine ze ?_ _|refine zf ?_|refine zg ?_ _));exact BK244.out) hb);replace HB:=zh (zC (by repeat (with_reducible first|exact HB.out|apply za|apply zb|apply zc|refine zd ?_ GE244.out)) hb);clear hb ho26))
        go_ret2
        exact ⟨_,by first|rfl|(simp [yt,yu] <;> rfl)|(simp only [← hji12];first|rfl|(simp [yt,yu] <;> rfl))|(simp [*,yt,yu] <;> rfl),by (with_reducible repeat (first|apply zm|apply zn|apply zo));exact zM HO250.out (fun _ hk => trivial),by repeat (with_reducible first|exact HB.out|apply za|apply zb|apply zc|refine zd ?_ GE244.out)⟩
       rw [if_neg c13] at H;exact absurd H (by simp)
      rw [if_neg c11] at H;exact absurd H (by simp)
     rw [if_neg c10] at H;exact absurd H (by simp)
    rw [if_neg c5] at H;exact absurd H (by simp)
   rw [if_neg c4] at H;have c4b0 : decide (0<(x0_1.size : Int))=false:=decide_eq_false c4;have c4b1 : decide (0<x0_1.size)=false:=decide_eq_false (by omega);clear c4;simp only [Option.some.injEq,Prod.mk.injEq] at H;obtain ⟨rfl,rfl⟩:=H
   go_wp2
   go_ret2
   exact ⟨_,by first|rfl|(simp [yt,yu] <;> rfl)|(simp [*,yt,yu] <;> rfl),by (with_reducible repeat (first|apply zm|apply zn|apply zo));exact HO_4.out,by repeat (with_reducible first|exact HB.out|apply za|apply zb|apply zc)⟩

end Go.Proofs.Ytlljfjpdflcjlaa.Q
end
section
namespace Go.Proofs.Ytlljfjpdflcjlaa.Q
open Go.RowKit Go.Proofs.YtlljfjpdflcjlaaW.PrintWords Go.Proofs.YtlljfjpdflcjlaaW.PrintLast Go.Proofs.YtlljfjpdflcjlaaW.PrintMore
attribute [local go_sem] max2_int min2_int max_two min_two max_three min_three max_four min_four max2_str min2_str str_geq str_gtr str_leq   -- for this text's walks alone
set_option linter.unusedVariables false
set_option linter.unusedSimpArgs false

mutual
def impl_fields.l0 : Nat→List (S84)→ByteArray→Bool→Option ((List (S84))×Bool)
 | 0,_,_,_ => none
 | k + 1,x5,x336000,x336001 => if x336000.toList=([] : List UInt8) then (impl_fields.j1 k x5 false x336000 x336001) else (impl_fields.j1 k x5 (!x336001) x336000 x336001)
def impl_fields.j1 : Nat→List (S84)→Bool→ByteArray→Bool→Option ((List (S84))×Bool)
 | 0,_,_,_,_ => none
 | k + 1,x5,x22,x336000,x336001 => if x22=true then ((impl_byteReader_num.f k x336000 x336001 1).bind fun bt339 => ((impl_byteReader_take.f bt339.2.1 bt339.2.2 bt339.1).bind fun bt342 => ((impl_byteReader_value.f k bt342.2.1 bt342.2.2).bind fun bt345 => (if x5.length<2932031007402 then (impl_fields.l0 k (x5 ++ [(⟨bt342.1,(⟨bt345.1,bt345.2.1,bt345.2.2.1⟩ : S33)⟩ : S84)]) bt345.2.2.2.1 bt345.2.2.2.2) else (none))))) else (some (x5,!x336001))
end
def impl_fields.f (k : Nat) (a0_0 : Int) (a0_1 : Int) (a0_2 : ByteArray) : Option ((List (S84))×Bool):=impl_fields.l0 k (([] : List (S84))) a0_2 false
theorem impl_fields.mono_l : ∀ k,(∀ y0 y1 y2,LeO (impl_fields.l0 k y0 y1 y2) (impl_fields.l0 (k + 1) y0 y1 y2))∧(∀ y0 y1 y2 y3,LeO (impl_fields.j1 k y0 y1 y2 y3) (impl_fields.j1 (k + 1) y0 y1 y2 y3))
 | 0 => ⟨fun _ _ _ r h => by simp [impl_fields.l0] at h,fun _ _ _ _ r h => by simp [impl_fields.j1] at h⟩
 | k + 1 => by
  obtain ⟨ih0,ih1⟩:=impl_fields.mono_l k;refine ⟨?_,?_⟩
  ·
   intro y0 y1 y2
   unfold impl_fields.l0
   repeat' first|(with_reducible exact ih0 _ _ _)|(with_reducible exact ih1 _ _ _ _)|(with_reducible exact impl_byteReader_num.mono _ _ _ _)|(with_reducible exact impl_byteReader_value.mono _ _ _)|(with_reducible exact zQ _)|(with_reducible exact zN _)|(with_reducible refine zP ?_ ?_)|(with_reducible refine zO ?_ (fun _ => ?_))|refine zP ?_ ?_|refine zO ?_ (fun _ => ?_)
  intro y0 y1 y2 y3;unfold impl_fields.j1
  repeat' first|(with_reducible exact ih0 _ _ _)|(with_reducible exact ih1 _ _ _ _)|(with_reducible exact impl_byteReader_num.mono _ _ _ _)|(with_reducible exact impl_byteReader_value.mono _ _ _)|(with_reducible exact zQ _)|(with_reducible exact zN _)|(with_reducible refine zP ?_ ?_)|(with_reducible refine zO ?_ (fun _ => ?_))|refine zP ?_ ?_|refine zO ?_ (fun _ => ?_)
theorem impl_fields.mono : ∀ a0 a1 a2 k,LeO (impl_fields.f k a0 a1 a2) (impl_fields.f (k + 1) a0 a1 a2):=by
 intro a0 a1 a2 k;obtain ⟨ih0,ih1⟩:=impl_fields.mono_l k;unfold impl_fields.f
 repeat' first|(with_reducible exact ih0 _ _ _)|(with_reducible exact ih1 _ _ _ _)|(with_reducible exact impl_byteReader_num.mono _ _ _ _)|(with_reducible exact impl_byteReader_value.mono _ _ _)|(with_reducible exact zQ _)|(with_reducible exact zN _)|(with_reducible refine zP ?_ ?_)|(with_reducible refine zO ?_ (fun _ => ?_))|refine zP ?_ ?_|refine zO ?_ (fun _ => ?_)
set_option maxHeartbeats 8000000 in
set_option maxRecDepth 100000 in
theorem impl_fields.calls (k : Nat) (a0_0 : Int) (a0_1 : Int) (a0_2 : ByteArray) (r1 : List (S84)) (r2 : Bool) (w : World) (h : impl_fields.f k a0_0 a0_1 a0_2=some (r1,r2)) :
  Calls Try.prog 71 #[.agg #[.int .i64 a0_0,.int .i64 a0_1,.string a0_2]] w fun e w' => ∃ v0_ : Value,e = .returned (.tuple #[v0_,.bool r2])∧Kd.R k84 84 w' w.heap.size (fun _ => True) v0_ r1∧Below w.heap.size w w':=by
 have hu33:=Try.underlying33;have hu54:=Try.underlying54;have hu84:=Try.underlying84;have HB:=zh (Below.refl w.heap.size w);have H : (impl_fields.l0 k (([] : List (S84))) a0_2 false)=some (r1,r2):=h;clear h;obtain ⟨y336,hy336⟩ : ∃ y_ : List (S84),y_=(([] : List (S84))):=⟨_,rfl⟩;replace H : (impl_fields.l0 k y336 a0_2 false)=some (r1,r2):=by first|(rw [hy336];with_reducible exact H)|(have H2_:=(Option.bind_some _ _).symm.trans H;rw [hy336];with_reducible exact H2_)|(have H2_:=(Option.bind_some _ _).symm.trans H;with_reducible exact H2_)|with_reducible exact H|(rw [hy336];exact H)|exact H
 have Ny336:=zh hy336;clear hy336;have H':=zh H;clear H
 go_enter Try.func71,Try.ntmps71
 go_wp2_with (first|((with_reducible refine zK (N:=1) rfl ?_);refine zI ?hg (N:=1) ?hd (cs:=#[.int .i64 a0_0,.int .i64 a0_1,.string a0_2]) (t:=33) ?hr ?_;(case hd => rfl);(case hg => rfl);(case hr => first|(go_simp;done)|(go_simp;rfl));intro gb334 hg w2 hbox hb;have BK334:=zh (hbox);have GW334:=zh ((by rw [hg];exact (zB (by repeat (with_reducible first|exact HB.out|apply za|apply zb|apply zc))) : w.heap.size≤gb334));have GE334:=zh ((by rw [hg];exact (zB (by repeat (with_reducible first|exact HB.out|apply za|apply zb|apply zc))) : w.heap.size≤gb334));replace HB:=zh (zC (by repeat (with_reducible first|exact HB.out|apply za|apply zb|apply zc)) hb);clear hb hbox hg;have hcz3_0 : w2.cell? ⟨gb334,0,none⟩=some (.int .i64 a0_0):=(zz BK334.out 0).trans rfl;have hcz3_1 : w2.cell? ⟨gb334,1,none⟩=some (.int .i64 a0_1):=(zz BK334.out 1).trans rfl;have hcz3_2 : w2.cell? ⟨gb334,2,none⟩=some (.string a0_2):=(zz BK334.out 2).trans rfl;have hfz3_0:=zA BK334.out 0;have hfz3_1:=zA BK334.out 1;have hfz3_2:=zA BK334.out 2)|((with_reducible refine zK (N:=9) rfl ?_);refine zI ?hg (N:=9) ?hd (cs:=#[.string a0_2,.bool false]) (t:=54) ?hr ?_;(case hd => rfl);(case hg => rfl);(case hr => first|(go_simp;done)|(go_simp;rfl));intro gb335 hg w4 hbox hb;have BK335:=zh (hbox);have GW335:=zh ((by rw [hg];exact (zB (by repeat (with_reducible first|exact HB.out|apply za|apply zb|apply zc|refine zd ?_ GE334.out))) : w.heap.size≤gb335));have GE335:=zh ((by rw [hg];exact (zB (by repeat (with_reducible first|exact HB.out|apply za|apply zb|apply zc|refine zd ?_ GE334.out))) : w.heap.size≤gb335));replace HB:=zh (zC (by repeat (with_reducible first|exact HB.out|apply za|apply zb|apply zc|refine zd ?_ GE334.out)) hb);have NB334_335:=zh ((by rw [hg];exact yc (yi (g:=gb334) (o:=.cells #[.int .i64 a0_0,.int .i64 a0_1,.string a0_2] 33 (0,0)) (by (with_reducible repeat (first|refine ze ?_ _|refine zf ?_|refine zg ?_ _));exact BK334.out)) : gb334≠gb335));have NB335_334:=zh ((by rw [hg];exact yd (yi (g:=gb334) (o:=.cells #[.int .i64 a0_0,.int .i64 a0_1,.string a0_2] 33 (0,0)) (by (with_reducible repeat (first|refine ze ?_ _|refine zf ?_|refine zg ?_ _));exact BK334.out)) : gb335≠gb334));replace BK334:=zh (zD (g:=gb334) (o:=.cells #[.int .i64 a0_0,.int .i64 a0_1,.string a0_2] 33 (0,0)) (by (with_reducible repeat (first|refine ze ?_ _|refine zf ?_|refine zg ?_ _));exact BK334.out) hb);clear hb hbox hg)|((with_reducible refine zK (N:=10) rfl ?_);refine Kd.R_lit k84 _ 84 ?hg (N:=10) ?hd (xs:=([] : List (S84))) (inner:=[]) (ok:=fun _ => True) (okp:=fun _ => True) ?hr ?hp (fun _ hk => hk) trivial (Below.refl _ _) (ye _) (by simp) ?_;(case hd => rfl);(case hg => rfl);(case hr => first|(go_simp;done)|(go_simp;rfl));(case hp => exact (Reps.none _ _));intro v337 w5 ho6 hb hg_ hnew_;clear hg_ hnew_;(first|rw [← Ny336.out] at ho6|(simp only [Int.reduceToNat] at ho6;rw [← Ny336.out] at ho6));have HO338:=zh (yy ho6 (zB (by repeat (with_reducible first|exact HB.out|apply za|apply zb|apply zc|refine zd ?_ GE334.out|refine zd ?_ GE335.out))));replace BK334:=zh (zD (g:=gb334) (o:=.cells #[.int .i64 a0_0,.int .i64 a0_1,.string a0_2] 33 (0,0)) (by (with_reducible repeat (first|refine ze ?_ _|refine zf ?_|refine zg ?_ _));exact BK334.out) hb);replace BK335:=zh (zD (g:=gb335) (o:=.cells #[.string a0_2,.bool false] 54 (0,0)) (by (with_reducible repeat (first|refine ze ?_ _|refine zf ?_|refine zg ?_ _));exact BK335.out) hb);replace HB:=zh (zC (by repeat (with_reducible first|exact HB.out|apply za|apply zb|apply zc|refine zd ?_ GE334.out|refine zd ?_ GE335.out)) hb);clear hb ho6))
 repeat (go_quiet (first|((with_reducible refine zK (N:=1) rfl ?_);refine zI ?hg (N:=1) ?hd (cs:=#[.int .i64 a0_0,.int .i64 a0_1,.string a0_2]) (t:=33) ?hr ?_;(case hd => rfl);(case hg => rfl);(case hr => first|(go_simp;done)|(go_simp;rfl));intro gb334 hg w2 hbox hb;have BK334:=zh (hbox);have GW334:=zh ((by rw [hg];exact (zB (by repeat (with_reducible first|exact HB.out|apply za|apply zb|apply zc))) : w.heap.size≤gb334));have GE334:=zh ((by rw [hg];exact (zB (by repeat (with_reducible first|exact HB.out|apply za|apply zb|apply zc))) : w.heap.size≤gb334));replace HB:=zh (zC (by repeat (with_reducible first|exact HB.out|apply za|apply zb|apply zc)) hb);clear hb hbox hg;have hcz3_0 : w2.cell? ⟨gb334,0,none⟩=some (.int .i64 a0_0):=(zz BK334.out 0).trans rfl;have hcz3_1 : w2.cell? ⟨gb334,1,none⟩=some (.int .i64 a0_1):=(zz BK334.out 1).trans rfl;have hcz3_2 : w2.cell? ⟨gb334,2,none⟩=some (.string a0_2):=(zz BK334.out 2).trans rfl;have hfz3_0:=zA BK334.out 0;have hfz3_1:=zA BK334.out 1;have hfz3_2:=zA BK334.out 2)|((with_reducible refine zK (N:=9) rfl ?_);refine zI ?hg (N:=9) ?hd (cs:=#[.string a0_2,.bool false]) (t:=54) ?hr ?_;(case hd => rfl);(case hg => rfl);(case hr => first|(go_simp;done)|(go_simp;rfl));intro gb335 hg w4 hbox hb;have BK335:=zh (hbox);have GW335:=zh ((by rw [hg];exact (zB (by repeat (with_reducible first|exact HB.out|apply za|apply zb|apply zc|refine zd ?_ GE334.out))) : w.heap.size≤gb335));have GE335:=zh ((by rw [hg];exact (zB (by repeat (with_reducible first|exact HB.out|apply za|apply zb|apply zc|refine zd ?_ GE334.out))) : w.heap.size≤gb335));replace HB:=zh (zC (by repeat (with_reducible first|exact HB.out|apply za|apply zb|apply zc|refine zd ?_ GE334.out)) hb);have NB334_335:=zh ((by rw [hg];exact yc (yi (g:=gb334) (o:=.cells #[.int .i64 a0_0,.int .i64 a0_1,.string a0_2] 33 (0,0)) (by (with_reducible repeat (first|refine ze ?_ _|refine zf ?_|refine zg ?_ _));exact BK334.out)) : gb334≠gb335));have NB335_334:=zh ((by rw [hg];exact yd (yi (g:=gb334) (o:=.cells #[.int .i64 a0_0,.int .i64 a0_1,.string a0_2] 33 (0,0)) (by (with_reducible repeat (first|refine ze ?_ _|refine zf ?_|refine zg ?_ _));exact BK334.out)) : gb335≠gb334));replace BK334:=zh (zD (g:=gb334) (o:=.cells #[.int .i64 a0_0,.int .i64 a0_1,.string a0_2] 33 (0,0)) (by (with_reducible repeat (first|refine ze ?_ _|refine zf ?_|refine zg ?_ _));exact BK334.out) hb);clear hb hbox hg)|((with_reducible refine zK (N:=10) rfl ?_);refine Kd.R_lit k84 _ 84 ?hg (N:=10) ?hd (xs:=([] : List (S84))) (inner:=[]) (ok:=fun _ => True) (okp:=fun _ => True) ?hr ?hp (fun _ hk => hk) trivial (Below.refl _ _) (ye _) (by simp) ?_;(case hd => rfl);(case hg => rfl);(case hr => first|(go_simp;done)|(go_simp;rfl));(case hp => exact (Reps.none _ _));intro v337 w5 ho6 hb hg_ hnew_;clear hg_ hnew_;(first|rw [← Ny336.out] at ho6|(simp only [Int.reduceToNat] at ho6;rw [← Ny336.out] at ho6));have HO338:=zh (yy ho6 (zB (by repeat (with_reducible first|exact HB.out|apply za|apply zb|apply zc|refine zd ?_ GE334.out|refine zd ?_ GE335.out))));replace BK334:=zh (zD (g:=gb334) (o:=.cells #[.int .i64 a0_0,.int .i64 a0_1,.string a0_2] 33 (0,0)) (by (with_reducible repeat (first|refine ze ?_ _|refine zf ?_|refine zg ?_ _));exact BK334.out) hb);replace BK335:=zh (zD (g:=gb335) (o:=.cells #[.string a0_2,.bool false] 54 (0,0)) (by (with_reducible repeat (first|refine ze ?_ _|refine zf ?_|refine zg ?_ _));exact BK335.out) hb);replace HB:=zh (zC (by repeat (with_reducible first|exact HB.out|apply za|apply zb|apply zc|refine zd ?_ GE334.out|refine zd ?_ GE335.out)) hb);clear hb ho6));try go_wp2_with (first|((with_reducible refine zK (N:=1) rfl ?_);refine zI ?hg (N:=1) ?hd (cs:=#[.int .i64 a0_0,.int .i64 a0_1,.string a0_2]) (t:=33) ?hr ?_;(case hd => rfl);(case hg => rfl);(case hr => first|(go_simp;done)|(go_simp;rfl));intro gb334 hg w2 hbox hb;have BK334:=zh (hbox);have GW334:=zh ((by rw [hg];exact (zB (by repeat (with_reducible first|exact HB.out|apply za|apply zb|apply zc))) : w.heap.size≤gb334));have GE334:=zh ((by rw [hg];exact (zB (by repeat (with_reducible first|exact HB.out|apply za|apply zb|apply zc))) : w.heap.size≤gb334));replace HB:=zh (zC (by repeat (with_reducible first|exact HB.out|apply za|apply zb|apply zc)) hb);clear hb hbox hg;have hcz3_0 : w2.cell? ⟨gb334,0,none⟩=some (.int .i64 a0_0):=(zz BK334.out 0).trans rfl;have hcz3_1 : w2.cell? ⟨gb334,1,none⟩=some (.int .i64 a0_1):=(zz BK334.out 1).trans rfl;have hcz3_2 : w2.cell? ⟨gb334,2,none⟩=some (.string a0_2):=(zz BK334.out 2).trans rfl;have hfz3_0:=zA BK334.out 0;have hfz3_1:=zA BK334.out 1;have hfz3_2:=zA BK334.out 2)|((with_reducible refine zK (N:=9) rfl ?_);refine zI ?hg (N:=9) ?hd (cs:=#[.string a0_2,.bool false]) (t:=54) ?hr ?_;(case hd => rfl);(case hg => rfl);(case hr => first|(go_simp;done)|(go_simp;rfl));intro gb335 hg w4 hbox hb;have BK335:=zh (hbox);have GW335:=zh ((by rw [hg];exact (zB (by repeat (with_reducible first|exact HB.out|apply za|apply zb|apply zc|refine zd ?_ GE334.out))) : w.heap.size≤gb335));have GE335:=zh ((by rw [hg];exact (zB (by repeat (with_reducible first|exact HB.out|apply za|apply zb|apply zc|refine zd ?_ GE334.out))) : w.heap.size≤gb335));replace HB:=zh (zC (by repeat (with_reducible first|exact HB.out|apply za|apply zb|apply zc|refine zd ?_ GE334.out)) hb);have NB334_335:=zh ((by rw [hg];exact yc (yi (g:=gb334) (o:=.cells #[.int .i64 a0_0,.int .i64 a0_1,.string a0_2] 33 (0,0)) (by (with_reducible repeat (first|refine ze ?_ _|refine zf ?_|refine zg ?_ _));exact BK334.out)) : gb334≠gb335));have NB335_334:=zh ((by rw [hg];exact yd (yi (g:=gb334) (o:=.cells #[.int .i64 a0_0,.int .i64 a0_1,.string a0_2] 33 (0,0)) (by (with_reducible repeat (first|refine ze ?_ _|refine zf ?_|refine zg ?_ _));exact BK334.out)) : gb335≠gb334));replace BK334:=zh (zD (g:=gb334) (o:=.cells #[.int .i64 a0_0,.int .i64 a0_1,.string a0_2] 33 (0,0)) (by (with_reducible repeat (first|refine ze ?_ _|refine zf ?_|refine zg ?_ _));exact BK334.out) hb);clear hb hbox hg)|((with_reducible refine zK (N:=10) rfl ?_);refine Kd.R_lit k84 _ 84 ?hg (N:=10) ?hd (xs:=([] : List (S84))) (inner:=[]) (ok:=fun _ => True) (okp:=fun _ => True) ?hr ?hp (fun _ hk => hk) trivial (Below.refl _ _) (ye _) (by simp) ?_;(case hd => rfl);(case hg => rfl);(case hr => first|(go_simp;done)|(go_simp;rfl));(case hp => exact (Reps.none _ _));intro v337 w5 ho6 hb hg_ hnew_;clear hg_ hnew_;(first|rw [← Ny336.out] at ho6|(simp only [Int.reduceToNat] at ho6;rw [← Ny336.out] at ho6));have HO338:=zh (yy ho6 (zB (by repeat (with_reducible first|exact HB.out|apply za|apply zb|apply zc|refine zd ?_ GE334.out|refine zd ?_ GE335.out))));replace BK334:=zh (zD (g:=gb334) (o:=.cells #[.int .i64 a0_0,.int .i64 a0_1,.string a0_2] 33 (0,0)) (by (with_reducible repeat (first|refine ze ?_ _|refine zf ?_|refine zg ?_ _));exact BK334.out) hb);replace BK335:=zh (zD (g:=gb335) (o:=.cells #[.string a0_2,.bool false] 54 (0,0)) (by (with_reducible repeat (first|refine ze ?_ _|refine zf ?_|refine zg ?_ _));exact BK335.out) hb);replace HB:=zh (zC (by repeat (with_reducible first|exact HB.out|apply za|apply zb|apply zc|refine zd ?_ GE334.out|refine zd ?_ GE335.out)) hb);clear hb ho6)))
 go_loopg [5] k (fun kq v5 w' => ∃ (x5_1 : List (S84)) (x336000_1 : ByteArray) (x336001_1 : Bool),Aside0 (impl_fields.l0 kq x5_1 x336000_1 x336001_1=some (r1,r2))∧Aside0 (kq≤k)∧Aside0 (Kd.R k84 84 w' w.heap.size (fun _ => True) v5 x5_1)∧Aside0 (w'.heap[gb334]? = some (.cells #[.int .i64 a0_0,.int .i64 a0_1,.string a0_2] 33 (0,0)))∧Aside0 (w'.heap[gb335]? = some (.cells #[.string x336000_1,.bool x336001_1] 54 (0,0)))∧Aside0 (Below w.heap.size w w'))
 case atStart => exact ⟨(y336),(a0_2),(false),H',⟨ye _⟩,⟨by (with_reducible repeat (first|apply zm|apply zn|apply zo));exact HO338.out⟩,⟨by (with_reducible repeat (first|refine ze ?_ _|refine zf ?_|refine zg ?_ _));exact BK334.out⟩,⟨by (with_reducible repeat (first|refine ze ?_ _|refine zf ?_|refine zg ?_ _));exact BK335.out⟩,⟨by repeat (with_reducible first|exact HB.out|apply za|apply zb|apply zc|refine zd ?_ GE334.out|refine zd ?_ GE335.out)⟩⟩
 case round =>
  clear H'
  try clear p2
  try clear hcz3_0
  try clear hcz3_1
  try clear hcz3_2
  try clear hfz3_0
  try clear hfz3_1
  try clear hfz3_2
  obtain ⟨x5_1,x336000_1,x336001_1,HA,HK1,HO_5,BK334,BK335,HB⟩:=hrel
  cases gk with
  | zero => exact absurd HA.out (by simp [impl_fields.l0])
  | succ k1 =>
   have H:=HA.out;clear HA;simp only [impl_fields.l0] at H;have HC7:=zh H;clear H
   go_upto_region 2 with (fail)
   repeat (go_quiet (fail);go_upto_region 2 with (fail))
   go_cut [22] (fun v22 wc => ∃ (kq : Nat) (x22_6 : Bool),v22 = .bool x22_6∧Aside0 (impl_fields.j1 kq x5_1 x22_6 x336000_1 x336001_1=some (r1,r2))∧Aside0 (kq≤k1)∧Aside0 (Kd.R k84 84 wc w.heap.size (fun _ => True) u5 x5_1)∧Aside0 (wc.heap[gb334]? = some (.cells #[.int .i64 a0_0,.int .i64 a0_1,.string a0_2] 33 (0,0)))∧Aside0 (wc.heap[gb335]? = some (.cells #[.string x336000_1,.bool x336001_1] 54 (0,0)))∧Aside0 (Below w.heap.size w wc))
   case first =>
    have H:=HC7.out;clear HC7
    by_cases c8 : x336000_1.toList=([] : List UInt8)
    ·
     rw [if_pos c8] at H
     have c8b0 : (x336000_1.toList == ([] : List UInt8))=true:=ya.mpr c8;have c8b1 : (x336000_1.toList != ([] : List UInt8))=false:=zX.mpr c8;clear c8;(first|rw [c8b0]|(simp only [zG,zH];rw [c8b0])|skip);have H':=zh H;clear H;have hnb9:=NB335_334.out;have hnc9:=NB334_335.out;have hcz10_0 : wr.cell? ⟨gb335,0,none⟩=some (.string x336000_1):=(zz BK335.out 0).trans rfl;have hcz10_1 : wr.cell? ⟨gb335,1,none⟩=some (.bool x336001_1):=(zz BK335.out 1).trans rfl;have hfz10_0:=zA BK335.out 0;have hfz10_1:=zA BK335.out 1
     go_wp2
     repeat (go_quiet (fail);try go_wp2)
     go_meet
     case rel => exact ⟨_,(false),(by first|rfl|(simp;done)|(simp [*];done)),H',⟨by have:=HK1.out;first|omega|exact ye _⟩,⟨by (with_reducible repeat (first|apply zm|apply zn|apply zo));exact HO_5.out⟩,⟨by (with_reducible repeat (first|refine ze ?_ _|refine zf ?_|refine zg ?_ _));exact BK334.out⟩,⟨by (with_reducible repeat (first|refine ze ?_ _|refine zf ?_|refine zg ?_ _));exact BK335.out⟩,⟨by repeat (with_reducible first|exact HB.out|apply za|apply zb|apply zc|refine zd ?_ GE334.out|refine zd ?_ GE335.out)⟩⟩
    rw [if_neg c8] at H;have c8b0 : (x336000_1.toList == ([] : List UInt8))=false:=zY.mpr c8;have c8b1 : (x336000_1.toList != ([] : List UInt8))=true:=zZ.mpr c8;(first|rw [c8b0]|(simp only [zG,zH];rw [c8b0])|skip);have H':=zh H;clear H;have hnb11:=NB335_334.out;have hnc11:=NB334_335.out;have hcz12_0 : wr.cell? ⟨gb335,0,none⟩=some (.string x336000_1):=(zz BK335.out 0).trans rfl;have hcz12_1 : wr.cell? ⟨gb335,1,none⟩=some (.bool x336001_1):=(zz BK335.out 1).trans rfl;have hfz12_0:=zA BK335.out 0;have hfz12_1:=zA BK335.out 1
    go_wp2
    repeat (go_quiet (fail);try go_wp2)
    go_meet
    case rel => exact ⟨_,(!x336001_1),(by first|rfl|(simp;done)|(simp [*];done)),H',⟨by have:=HK1.out;first|omega|exact ye _⟩,⟨by (with_reducible repeat (first|apply zm|apply zn|apply zo));exact HO_5.out⟩,⟨by (with_reducible repeat (first|refine ze ?_ _|refine zf ?_|refine zg ?_ _));exact BK334.out⟩,⟨by (with_reducible repeat (first|refine ze ?_ _|refine zf ?_|refine zg ?_ _));exact BK335.out⟩,⟨by repeat (with_reducible first|exact HB.out|apply za|apply zb|apply zc|refine zd ?_ GE334.out|refine zd ?_ GE335.out)⟩⟩
   case rest =>
    clear HC7
    try clear c1
    try clear p2
    try clear c7
    try clear c8
    try clear c8b0
    try clear c8b1
    try clear c9
    try clear c11
    try clear hcz10_0
    try clear hcz10_1
    try clear hcz12_0
    try clear hcz12_1
    try clear hcz3_0
    try clear hcz3_1
    try clear hcz3_2
    try clear hfz10_0
    try clear hfz10_1
    try clear hfz12_0
    try clear hfz12_1
    try clear hfz3_0
    try clear hfz3_1
    try clear hfz3_2
    try clear p2
    obtain ⟨kq,x22_6,rfl,HA,HJ6,HO_5,BK334,BK335,HB⟩:=hcut
    cases kq with
    | zero => exact absurd HA.out (by simp [impl_fields.j1])
    | succ kj6 =>
     have H:=HA.out;clear HA;simp only [impl_fields.j1] at H
     by_cases c13 : x22_6=true
     ·
      subst c13
      have H1 : ((impl_byteReader_num.f kj6 x336000_1 x336001_1 1).bind fun bt339 => ((impl_byteReader_take.f bt339.2.1 bt339.2.2 bt339.1).bind fun bt342 => ((impl_byteReader_value.f kj6 bt342.2.1 bt342.2.2).bind fun bt345 => (if x5_1.length<2932031007402 then (impl_fields.l0 kj6 (x5_1 ++ [(⟨bt342.1,(⟨bt345.1,bt345.2.1,bt345.2.2.1⟩ : S33)⟩ : S84)]) bt345.2.2.2.1 bt345.2.2.2.2) else (none)))))=some (r1,r2):=by rw [if_pos rfl] at H;exact H
      clear H;have H:=H1;clear H1;replace H:=zT.mp H;obtain ⟨⟨t339,t340,t341⟩,A140,H⟩:=H;replace H : ((impl_byteReader_take.f t340 t341 t339).bind fun bt342 => ((impl_byteReader_value.f kj6 bt342.2.1 bt342.2.2).bind fun bt345 => (if x5_1.length<2932031007402 then (impl_fields.l0 kj6 (x5_1 ++ [(⟨bt342.1,(⟨bt345.1,bt345.2.1,bt345.2.2.1⟩ : S33)⟩ : S84)]) bt345.2.2.2.1 bt345.2.2.2.2) else (none))))=some (r1,r2):=H;have A14:=zh A140;clear A140;replace H:=zT.mp H;obtain ⟨⟨t342,t343,t344⟩,A150,H⟩:=H;replace H : ((impl_byteReader_value.f kj6 t343 t344).bind fun bt345 => (if x5_1.length<2932031007402 then (impl_fields.l0 kj6 (x5_1 ++ [(⟨t342,(⟨bt345.1,bt345.2.1,bt345.2.2.1⟩ : S33)⟩ : S84)]) bt345.2.2.2.1 bt345.2.2.2.2) else (none)))=some (r1,r2):=H;have A15:=zh A150;clear A150;replace H:=zT.mp H;obtain ⟨⟨t345,t346,t347,t348,t349⟩,A160,H⟩:=H;replace H : (if x5_1.length<2932031007402 then (impl_fields.l0 kj6 (x5_1 ++ [(⟨t342,(⟨t345,t346,t347⟩ : S33)⟩ : S84)]) t348 t349) else (none))=some (r1,r2):=H;have A16:=zh A160;clear A160
      by_cases c17 : x5_1.length<2932031007402
      ·
       rw [if_pos c17] at H
       have LMc17:=zh c17;clear c17;obtain ⟨y350,hy350⟩ : ∃ y_ : List (S84),y_=(x5_1 ++ [(⟨t342,(⟨t345,t346,t347⟩ : S33)⟩ : S84)]):=⟨_,rfl⟩;replace H : (impl_fields.l0 kj6 y350 t348 t349)=some (r1,r2):=by first|(rw [hy350];with_reducible exact H)|(have H2_:=(Option.bind_some _ _).symm.trans H;rw [hy350];with_reducible exact H2_)|(have H2_:=(Option.bind_some _ _).symm.trans H;with_reducible exact H2_)|with_reducible exact H|(rw [hy350];exact H)|exact H
       have Ny350:=zh hy350;clear hy350;have H':=zh H;clear H;have HI335:=zh (show IsS54 w wc gb335 x336000_1 x336001_1 from ⟨BK335.out,GE335.out⟩)
       go_wp2_with (first|(go_at_call 54;(with_reducible refine (impl_byteReader_num.calls kj6  gb335 x336000_1 x336001_1 1 t339 t340 t341 w _ ?side1 ?side2 A14.out).mono ?_);(case side1 => repeat (with_reducible first|exact HI335.out|apply IsS54.alloc|apply IsS54.drewN|apply IsS54.drew|apply IsS54.set_0|apply IsS54.set_1|refine IsS54.far ?_ NB335_334.out _));(case side2 => repeat (with_reducible first|exact HB.out|apply za|apply zb|apply zc|refine zd ?_ (IsS54.ge HI335.out)|refine zd ?_ GE334.out));rintro e w18 ⟨rfl,hi,hb,hk⟩;replace HO_5:=zh (zM (Kd.R_keep (IsS54.apart (show IsS54 w _ gb335 x336000_1 x336001_1 from by repeat (with_reducible first|exact HI335.out|apply IsS54.alloc|apply IsS54.drewN|apply IsS54.drew|apply IsS54.set_0|apply IsS54.set_1|refine IsS54.far ?_ NB335_334.out _)) (by (with_reducible repeat (first|apply zm|apply zn|apply zo));exact HO_5.out) (by decide)) hk (fun _ h => h.2)) (fun _ h => h.1));replace BK334:=zh (KeepBut.blk hk (g':=gb334) (o:=.cells #[.int .i64 a0_0,.int .i64 a0_1,.string a0_2] 33 (0,0)) (by (with_reducible repeat (first|refine ze ?_ _|refine zf ?_|refine zg ?_ _));exact BK334.out) NB334_335.out (by simp));replace HB:=zh (hb);replace BK335:=zh ((show _∧_ from hi).1);clear HI335;(try clear hb);(try clear hb2);(try clear hk);(try clear hi);have HI335:=zh (show IsS54 w w18 gb335 t340 t341 from ⟨BK335.out,GE335.out⟩))|(go_at_call 55;(with_reducible refine (impl_byteReader_take.calls  gb335 t340 t341 t339 t342 t343 t344 w _ ?side1 ?side2 A15.out).mono ?_);(case side1 => repeat (with_reducible first|exact HI335.out|apply IsS54.alloc|apply IsS54.drewN|apply IsS54.drew|apply IsS54.set_0|apply IsS54.set_1|refine IsS54.far ?_ NB335_334.out _));(case side2 => repeat (with_reducible first|exact HB.out|apply za|apply zb|apply zc|refine zd ?_ (IsS54.ge HI335.out)|refine zd ?_ GE334.out));rintro e w19 ⟨rfl,hi,hb,hk⟩;replace HO_5:=zh (zM (Kd.R_keep (IsS54.apart (show IsS54 w _ gb335 t340 t341 from by repeat (with_reducible first|exact HI335.out|apply IsS54.alloc|apply IsS54.drewN|apply IsS54.drew|apply IsS54.set_0|apply IsS54.set_1|refine IsS54.far ?_ NB335_334.out _)) (by (with_reducible repeat (first|apply zm|apply zn|apply zo));exact HO_5.out) (by decide)) hk (fun _ h => h.2)) (fun _ h => h.1));replace BK334:=zh (KeepBut.blk hk (g':=gb334) (o:=.cells #[.int .i64 a0_0,.int .i64 a0_1,.string a0_2] 33 (0,0)) (by (with_reducible repeat (first|refine ze ?_ _|refine zf ?_|refine zg ?_ _));exact BK334.out) NB334_335.out (by simp));replace HB:=zh (hb);replace BK335:=zh ((show _∧_ from hi).1);clear HI335;(try clear hb);(try clear hb2);(try clear hk);(try clear hi);have HI335:=zh (show IsS54 w w19 gb335 t343 t344 from ⟨BK335.out,GE335.out⟩))|(go_at_call 107;(with_reducible refine (impl_byteReader_value.calls kj6  gb335 t343 t344 t345 t346 t347 t348 t349 w _ ?side1 ?side2 A16.out).mono ?_);(case side1 => repeat (with_reducible first|exact HI335.out|apply IsS54.alloc|apply IsS54.drewN|apply IsS54.drew|apply IsS54.set_0|apply IsS54.set_1|refine IsS54.far ?_ NB335_334.out _));(case side2 => repeat (with_reducible first|exact HB.out|apply za|apply zb|apply zc|refine zd ?_ (IsS54.ge HI335.out)|refine zd ?_ GE334.out));rintro e w20 ⟨rfl,hi,hb,hk⟩;replace HO_5:=zh (zM (Kd.R_keep (IsS54.apart (show IsS54 w _ gb335 t343 t344 from by repeat (with_reducible first|exact HI335.out|apply IsS54.alloc|apply IsS54.drewN|apply IsS54.drew|apply IsS54.set_0|apply IsS54.set_1|refine IsS54.far ?_ NB335_334.out _)) (by (with_reducible repeat (first|apply zm|apply zn|apply zo));exact HO_5.out) (by decide)) hk (fun _ h => h.2)) (fun _ h => h.1));replace BK334:=zh (KeepBut.blk hk (g':=gb334) (o:=.cells #[.int .i64 a0_0,.int .i64 a0_1,.string a0_2] 33 (0,0)) (by (with_reducible repeat (first|refine ze ?_ _|refine zf ?_|refine zg ?_ _));exact BK334.out) NB334_335.out (by simp));replace HB:=zh (hb);replace BK335:=zh ((show _∧_ from hi).1);clear HI335;(try clear hb);(try clear hb2);(try clear hk);(try clear hi))|((with_reducible refine yB (b:=.append) (xs:=#[.tmp 23,.tmp 31]) rfl ?_);at_builtin;refine Kd.R_append k84 (w0:=w) w.heap.size rfl (.tmp 23) (.tmp 31) 80 84 (.agg #[(.string ⟨#[]⟩),(.int .i64 0),(.int .i64 0),(.string ⟨#[]⟩)]) 48 rfl Try.underlying80 info84 rfl (by decide) (by omega) u5 x5_1 (⟨t342,(⟨t345,t346,t347⟩ : S33)⟩ : S84) [.string t342,.int .i64 t345,.int .i64 t346,.string t347] (fun _ => True) (fun _ => False) rfl rfl ?aP (fun _ hk => hk.elim) ?aF ?aO ?aB ?aS ?aL ?_;(case aP => exact k84_mkM _ _ _ (⟨t342,(⟨t345,t346,t347⟩ : S33)⟩ : S84));(case aB => exact (by repeat (with_reducible first|exact HB.out|apply za|apply zb|apply zc|refine zd ?_ GE334.out|refine zd ?_ GE335.out)));(case aF => exact (fun _ _ => trivial));(case aO => exact (by (with_reducible repeat (first|apply zm|apply zn|apply zo));exact HO_5.out));(case aS => exact (zB (by repeat (with_reducible first|exact HB.out|apply za|apply zb|apply zc|refine zd ?_ GE334.out|refine zd ?_ GE335.out))));(case aL => have:=LMc17.out;omega);intro v351 w21 ho hb hg hat;rw [← Ny350.out] at ho;replace BK334:=zh (yw (g:=gb334) (o:=.cells #[.int .i64 a0_0,.int .i64 a0_1,.string a0_2] 33 (0,0)) (by (with_reducible repeat (first|refine ze ?_ _|refine zf ?_|refine zg ?_ _));exact BK334.out) hg (Kd.R_ne HO_5.out BK334.out (by decide)));replace BK335:=zh (yw (g:=gb335) (o:=.cells #[.string t348,.bool t349] 54 (0,0)) (by (with_reducible repeat (first|refine ze ?_ _|refine zf ?_|refine zg ?_ _));exact BK335.out) hg (Kd.R_ne HO_5.out BK335.out (by decide)));replace HB:=zh (hb);have HO352:=zh (ho);clear HO_5 ho hb hg hat))
       repeat (go_quiet (first|(go_at_call 54;(with_reducible refine (impl_byteReader_num.calls kj6  gb335 x336000_1 x336001_1 1 t339 t340 t341 w _ ?side1 ?side2 A14.out).mono ?_);(case side1 => repeat (with_reducible first|exact HI335.out|apply IsS54.alloc|apply IsS54.drewN|apply IsS54.drew|apply IsS54.set_0|apply IsS54.set_1|refine IsS54.far ?_ NB335_334.out _));(case side2 => repeat (with_reducible first|exact HB.out|apply za|apply zb|apply zc|refine zd ?_ (IsS54.ge HI335.out)|refine zd ?_ GE334.out));rintro e w18 ⟨rfl,hi,hb,hk⟩;replace HO_5:=zh (zM (Kd.R_keep (IsS54.apart (show IsS54 w _ gb335 x336000_1 x336001_1 from by repeat (with_reducible first|exact HI335.out|apply IsS54.alloc|apply IsS54.drewN|apply IsS54.drew|apply IsS54.set_0|apply IsS54.set_1|refine IsS54.far ?_ NB335_334.out _)) (by (with_reducible repeat (first|apply zm|apply zn|apply zo));exact HO_5.out) (by decide)) hk (fun _ h => h.2)) (fun _ h => h.1));replace BK334:=zh (KeepBut.blk hk (g':=gb334) (o:=.cells #[.int .i64 a0_0,.int .i64 a0_1,.string a0_2] 33 (0,0)) (by (with_reducible repeat (first|refine ze ?_ _|refine zf ?_|refine zg ?_ _));exact BK334.out) NB334_335.out (by simp));replace HB:=zh (hb);replace BK335:=zh ((show _∧_ from hi).1);clear HI335;(try clear hb);(try clear hb2);(try clear hk);(try clear hi);have HI335:=zh (show IsS54 w w18 gb335 t340 t341 from ⟨BK335.out,GE335.out⟩))|(go_at_call 55;(with_reducible refine (impl_byteReader_take.calls  gb335 t340 t341 t339 t342 t343 t344 w _ ?side1 ?side2 A15.out).mono ?_);(case side1 => repeat (with_reducible first|exact HI335.out|apply IsS54.alloc|apply IsS54.drewN|apply IsS54.drew|apply IsS54.set_0|apply IsS54.set_1|refine IsS54.far ?_ NB335_334.out _));(case side2 => repeat (with_reducible first|exact HB.out|apply za|apply zb|apply zc|refine zd ?_ (IsS54.ge HI335.out)|refine zd ?_ GE334.out));rintro e w19 ⟨rfl,hi,hb,hk⟩;replace HO_5:=zh (zM (Kd.R_keep (IsS54.apart (show IsS54 w _ gb335 t340 t341 from by repeat (with_reducible first|exact HI335.out|apply IsS54.alloc|apply IsS54.drewN|apply IsS54.drew|apply IsS54.set_0|apply IsS54.set_1|refine IsS54.far ?_ NB335_334.out _)) (by (with_reducible repeat (first|apply zm|apply zn|apply zo));exact HO_5.out) (by decide)) hk (fun _ h => h.2)) (fun _ h => h.1));replace BK334:=zh (KeepBut.blk hk (g':=gb334) (o:=.cells #[.int .i64 a0_0,.int .i64 a0_1,.string a0_2] 33 (0,0)) (by (with_reducible repeat (first|refine ze ?_ _|refine zf ?_|refine zg ?_ _));exact BK334.out) NB334_335.out (by simp));replace HB:=zh (hb);replace BK335:=zh ((show _∧_ from hi).1);clear HI335;(try clear hb);(try clear hb2);(try clear hk);(try clear hi);have HI335:=zh (show IsS54 w w19 gb335 t343 t344 from ⟨BK335.out,GE335.out⟩))|(go_at_call 107;(with_reducible refine (impl_byteReader_value.calls kj6  gb335 t343 t344 t345 t346 t347 t348 t349 w _ ?side1 ?side2 A16.out).mono ?_);(case side1 => repeat (with_reducible first|exact HI335.out|apply IsS54.alloc|apply IsS54.drewN|apply IsS54.drew|apply IsS54.set_0|apply IsS54.set_1|refine IsS54.far ?_ NB335_334.out _));(case side2 => repeat (with_reducible first|exact HB.out|apply za|apply zb|apply zc|refine zd ?_ (IsS54.ge HI335.out)|refine zd ?_ GE334.out));rintro e w20 ⟨rfl,hi,hb,hk⟩;replace HO_5:=zh (zM (Kd.R_keep (IsS54.apart (show IsS54 w _ gb335 t343 t344 from by repeat (with_reducible first|exact HI335.out|apply IsS54.alloc|apply IsS54.drewN|apply IsS54.drew|apply IsS54.set_0|apply IsS54.set_1|refine IsS54.far ?_ NB335_334.out _)) (by (with_reducible repeat (first|apply zm|apply zn|apply zo));exact HO_5.out) (by decide)) hk (fun _ h => h.2)) (fun _ h => h.1));replace BK334:=zh (KeepBut.blk hk (g':=gb334) (o:=.cells #[.int .i64 a0_0,.int .i64 a0_1,.string a0_2] 33 (0,0)) (by (with_reducible repeat (first|refine ze ?_ _|refine zf ?_|refine zg ?_ _));exact BK334.out) NB334_335.out (by simp));replace HB:=zh (hb);replace BK335:=zh ((show _∧_ from hi).1);clear HI335;(try clear hb);(try clear hb2);(try clear hk);(try clear hi))|((with_reducible refine yB (b:=.append) (xs:=#[.tmp 23,.tmp 31]) rfl ?_);at_builtin;refine Kd.R_append k84 (w0:=w) w.heap.size rfl (.tmp 23) (.tmp 31) 80 84 (.agg #[(.string ⟨#[]⟩),(.int .i64 0),(.int .i64 0),(.string ⟨#[]⟩)]) 48 rfl Try.underlying80 info84 rfl (by decide) (by omega) u5 x5_1 (⟨t342,(⟨t345,t346,t347⟩ : S33)⟩ : S84) [.string t342,.int .i64 t345,.int .i64 t346,.string t347] (fun _ => True) (fun _ => False) rfl rfl ?aP (fun _ hk => hk.elim) ?aF ?aO ?aB ?aS ?aL ?_;(case aP => exact k84_mkM _ _ _ (⟨t342,(⟨t345,t346,t347⟩ : S33)⟩ : S84));(case aB => exact (by repeat (with_reducible first|exact HB.out|apply za|apply zb|apply zc|refine zd ?_ GE334.out|refine zd ?_ GE335.out)));(case aF => exact (fun _ _ => trivial));(case aO => exact (by (with_reducible repeat (first|apply zm|apply zn|apply zo));exact HO_5.out));(case aS => exact (zB (by repeat (with_reducible first|exact HB.out|apply za|apply zb|apply zc|refine zd ?_ GE334.out|refine zd ?_ GE335.out))));(case aL => have:=LMc17.out;omega);intro v351 w21 ho hb hg hat;rw [← Ny350.out] at ho;replace BK334:=zh (yw (g:=gb334) (o:=.cells #[.int .i64 a0_0,.int .i64 a0_1,.string a0_2] 33 (0,0)) (by (with_reducible repeat (first|refine ze ?_ _|refine zf ?_|refine zg ?_ _));exact BK334.out) hg (Kd.R_ne HO_5.out BK334.out (by decide)));replace BK335:=zh (yw (g:=gb335) (o:=.cells #[.string t348,.bool t349] 54 (0,0)) (by (with_reducible repeat (first|refine ze ?_ _|refine zf ?_|refine zg ?_ _));exact BK335.out) hg (Kd.R_ne HO_5.out BK335.out (by decide)));replace HB:=zh (hb);have HO352:=zh (ho);clear HO_5 ho hb hg hat));try go_wp2_with (first|(go_at_call 54;(with_reducible refine (impl_byteReader_num.calls kj6  gb335 x336000_1 x336001_1 1 t339 t340 t341 w _ ?side1 ?side2 A14.out).mono ?_);(case side1 => repeat (with_reducible first|exact HI335.out|apply IsS54.alloc|apply IsS54.drewN|apply IsS54.drew|apply IsS54.set_0|apply IsS54.set_1|refine IsS54.far ?_ NB335_334.out _));(case side2 => repeat (with_reducible first|exact HB.out|apply za|apply zb|apply zc|refine zd ?_ (IsS54.ge HI335.out)|refine zd ?_ GE334.out));rintro e w18 ⟨rfl,hi,hb,hk⟩;replace HO_5:=zh (zM (Kd.R_keep (IsS54.apart (show IsS54 w _ gb335 x336000_1 x336001_1 from by repeat (with_reducible first|exact HI335.out|apply IsS54.alloc|apply IsS54.drewN|apply IsS54.drew|apply IsS54.set_0|apply IsS54.set_1|refine IsS54.far ?_ NB335_334.out _)) (by (with_reducible repeat (first|apply zm|apply zn|apply zo));exact HO_5.out) (by decide)) hk (fun _ h => h.2)) (fun _ h => h.1));replace BK334:=zh (KeepBut.blk hk (g':=gb334) (o:=.cells #[.int .i64 a0_0,.int .i64 a0_1,.string a0_2] 33 (0,0)) (by (with_reducible repeat (first|refine ze ?_ _|refine zf ?_|refine zg ?_ _));exact BK334.out) NB334_335.out (by simp));replace HB:=zh (hb);replace BK335:=zh ((show _∧_ from hi).1);clear HI335;(try clear hb);(try clear hb2);(try clear hk);(try clear hi);have HI335:=zh (show IsS54 w w18 gb335 t340 t341 from ⟨BK335.out,GE335.out⟩))|(go_at_call 55;(with_reducible refine (impl_byteReader_take.calls  gb335 t340 t341 t339 t342 t343 t344 w _ ?side1 ?side2 A15.out).mono ?_);(case side1 => repeat (with_reducible first|exact HI335.out|apply IsS54.alloc|apply IsS54.drewN|apply IsS54.drew|apply IsS54.set_0|apply IsS54.set_1|refine IsS54.far ?_ NB335_334.out _));(case side2 => repeat (with_reducible first|exact HB.out|apply za|apply zb|apply zc|refine zd ?_ (IsS54.ge HI335.out)|refine zd ?_ GE334.out));rintro e w19 ⟨rfl,hi,hb,hk⟩;replace HO_5:=zh (zM (Kd.R_keep (IsS54.apart (show IsS54 w _ gb335 t340 t341 from by repeat (with_reducible first|exact HI335.out|apply IsS54.alloc|apply IsS54.drewN|apply IsS54.drew|apply IsS54.set_0|apply IsS54.set_1|refine IsS54.far ?_ NB335_334.out _)) (by (with_reducible repeat (first|apply zm|apply zn|apply zo));exact HO_5.out) (by decide)) hk (fun _ h => h.2)) (fun _ h => h.1));replace BK334:=zh (KeepBut.blk hk (g':=gb334) (o:=.cells #[.int .i64 a0_0,.int .i64 a0_1,.string a0_2] 33 (0,0)) (by (with_reducible repeat (first|refine ze ?_ _|refine zf ?_|refine zg ?_ _));exact BK334.out) NB334_335.out (by simp));replace HB:=zh (hb);replace BK335:=zh ((show _∧_ from hi).1);clear HI335;(try clear hb);(try clear hb2);(try clear hk);(try clear hi);have HI335:=zh (show IsS54 w w19 gb335 t343 t344 from ⟨BK335.out,GE335.out⟩))|(go_at_call 107;(with_reducible refine (impl_byteReader_value.calls kj6  gb335 t343 t344 t345 t346 t347 t348 t349 w _ ?side1 ?side2 A16.out).mono ?_);(case side1 => repeat (with_reducible first|exact HI335.out|apply IsS54.alloc|apply IsS54.drewN|apply IsS54.drew|apply IsS54.set_0|apply IsS54.set_1|refine IsS54.far ?_ NB335_334.out _));(case side2 => repeat (with_reducible first|exact HB.out|apply za|apply zb|apply zc|refine zd ?_ (IsS54.ge HI335.out)|refine zd ?_ GE334.out));rintro e w20 ⟨rfl,hi,hb,hk⟩;replace HO_5:=zh (zM (Kd.R_keep (IsS54.apart (show IsS54 w _ gb335 t343 t344 from by repeat (with_reducible first|exact HI335.out|apply IsS54.alloc|apply IsS54.drewN|apply IsS54.drew|apply IsS54.set_0|apply IsS54.set_1|refine IsS54.far ?_ NB335_334.out _)) (by (with_reducible repeat (first|apply zm|apply zn|apply zo));exact HO_5.out) (by decide)) hk (fun _ h => h.2)) (fun _ h => h.1));replace BK334:=zh (KeepBut.blk hk (g':=gb334) (o:=.cells #[.int .i64 a0_0,.int .i64 a0_1,.string a0_2] 33 (0,0)) (by (with_reducible repeat (first|refine ze ?_ _|refine zf ?_|refine zg ?_ _));exact BK334.out) NB334_335.out (by simp));replace HB:=zh (hb);replace BK335:=zh ((show _∧_ from hi).1);clear HI335;(try clear hb);(try clear hb2);(try clear hk);(try clear hi))|((with_reducible refine yB (b:=.append) (xs:=#[.tmp 23,.tmp 31]) rfl ?_);at_builtin;refine Kd.R_append k84 (w0:=w) w.heap.size rfl (.tmp 23) (.tmp 31) 80 84 (.agg #[(.string ⟨#[]⟩),(.int .i64 0),(.int .i64 0),(.string ⟨#[]⟩)]) 48 rfl Try.underlying80 info84 rfl (by decide) (by omega) u5 x5_1 (⟨t342,(⟨t345,t346,t347⟩ : S33)⟩ : S84) [.string t342,.int .i64 t345,.int .i64 t346,.string t347] (fun _ => True) (fun _ => False) rfl rfl ?aP (fun _ hk => hk.elim) ?aF ?aO ?aB ?aS ?aL ?_;(case aP => exact k84_mkM _ _ _ (⟨t342,(⟨t345,t346,t347⟩ : S33)⟩ : S84));(case aB => exact (by repeat (with_reducible first|exact HB.out|apply za|apply zb|apply zc|refine zd ?_ GE334.out|refine zd ?_ GE335.out)));(case aF => exact (fun _ _ => trivial));(case aO => exact (by (with_reducible repeat (first|apply zm|apply zn|apply zo));exact HO_5.out));(case aS => exact (zB (by repeat (with_reducible first|exact HB.out|apply za|apply zb|apply zc|refine zd ?_ GE334.out|refine zd ?_ GE335.out))));(case aL => have:=LMc17.out;omega);intro v351 w21 ho hb hg hat;rw [← Ny350.out] at ho;replace BK334:=zh (yw (g:=gb334) (o:=.cells #[.int .i64 a0_0,.int .i64 a0_1,.string a0_2] 33 (0,0)) (by (with_reducible repeat (first|refine ze ?_ _|refine zf ?_|refine zg ?_ _));exact BK334.out) hg (Kd.R_ne HO_5.out BK334.out (by decide)));replace BK335:=zh (yw (g:=gb335) (o:=.cells #[.string t348,.bool t349] 54 (0,0)) (by (with_reducible repeat (first|refine ze ?_ _|refine zf ?_|refine zg ?_ _));exact BK335.out) hg (Kd.R_ne HO_5.out BK335.out (by decide)));replace HB:=zh (hb);have HO352:=zh (ho);clear HO_5 ho hb hg hat)))
       go_roundg kj6
       case measure => have:=HK1.out;have:=HJ6.out;omega
       case rel => exact ⟨(y350),(t348),(t349),H',⟨by have:=HK1.out;have:=HJ6.out;omega⟩,⟨by (with_reducible repeat (first|apply zm|apply zn|apply zo));exact HO352.out⟩,⟨by (with_reducible repeat (first|refine ze ?_ _|refine zf ?_|refine zg ?_ _));exact BK334.out⟩,⟨by (with_reducible repeat (first|refine ze ?_ _|refine zf ?_|refine zg ?_ _));exact BK335.out⟩,⟨by repeat (with_reducible first|exact HB.out|apply za|apply zb|apply zc|refine zd ?_ GE334.out|refine zd ?_ GE335.out)⟩⟩
      rw [if_neg c17] at H;exact absurd H (by simp)
     replace c13:=yb.mpr c13;subst c13;have H1 : (some (x5_1,!x336001_1))=some (r1,r2):=by rw [if_neg (show ¬ (false=true) by decide)] at H;exact H
     clear H;have H:=H1;clear H1;simp only [Option.some.injEq,Prod.mk.injEq] at H;obtain ⟨rfl,rfl⟩:=H;have hnb22:=NB335_334.out;have hnc22:=NB334_335.out;have hcz23_0 : wc.cell? ⟨gb335,0,none⟩=some (.string x336000_1):=(zz BK335.out 0).trans rfl;have hcz23_1 : wc.cell? ⟨gb335,1,none⟩=some (.bool x336001_1):=(zz BK335.out 1).trans rfl;have hfz23_0:=zA BK335.out 0;have hfz23_1:=zA BK335.out 1
     go_wp2
     repeat (go_quiet (fail);try go_wp2)
     go_ret2
     exact ⟨_,by first|rfl|(simp [yt,yu] <;> rfl)|(simp [*,yt,yu] <;> rfl),by (with_reducible repeat (first|apply zm|apply zn|apply zo));exact HO_5.out,by repeat (with_reducible first|exact HB.out|apply za|apply zb|apply zc|refine zd ?_ GE334.out|refine zd ?_ GE335.out)⟩

end Go.Proofs.Ytlljfjpdflcjlaa.Q
end
section
namespace Go.Proofs.Ytlljfjpdflcjlaa.Q
open Go.RowKit Go.Proofs.YtlljfjpdflcjlaaW.PrintWords Go.Proofs.YtlljfjpdflcjlaaW.PrintLast Go.Proofs.YtlljfjpdflcjlaaW.PrintMore
attribute [local go_sem] max2_int min2_int max_two min_two max_three min_three max_four min_four max2_str min2_str str_geq str_gtr str_leq   -- for this text's walks alone
set_option linter.unusedVariables false
set_option linter.unusedSimpArgs false

def impl_items.l0 : Nat→List (S33)→ByteArray→Bool→Option ((List (S33))×Bool)
 | 0,_,_,_ => none
 | k + 1,x5,x355000,x355001 => if x355000.toList=([] : List UInt8) then (some (x5,!x355001)) else (if x355001=true then (some (x5,!x355001)) else ((impl_byteReader_value.f k x355000 x355001).bind fun bt358 => (if x5.length<4398046511104 then (impl_items.l0 k (x5 ++ [(⟨bt358.1,bt358.2.1,bt358.2.2.1⟩ : S33)]) bt358.2.2.2.1 bt358.2.2.2.2) else (none))))
def impl_items.f (k : Nat) (a0_0 : Int) (a0_1 : Int) (a0_2 : ByteArray) : Option ((List (S33))×Bool):=impl_items.l0 k (([] : List (S33))) a0_2 false
theorem impl_items.mono_l : ∀ k,(∀ y0 y1 y2,LeO (impl_items.l0 k y0 y1 y2) (impl_items.l0 (k + 1) y0 y1 y2))
 | 0 => fun _ _ _ r h => by simp [impl_items.l0] at h
 | k + 1 => by
  have ih0:=impl_items.mono_l k;intro y0 y1 y2;unfold impl_items.l0
  repeat' first|(with_reducible exact ih0 _ _ _)|(with_reducible exact impl_byteReader_value.mono _ _ _)|(with_reducible exact zQ _)|(with_reducible exact zN _)|(with_reducible refine zP ?_ ?_)|(with_reducible refine zO ?_ (fun _ => ?_))|refine zP ?_ ?_|refine zO ?_ (fun _ => ?_)
theorem impl_items.mono : ∀ a0 a1 a2 k,LeO (impl_items.f k a0 a1 a2) (impl_items.f (k + 1) a0 a1 a2):=by
 intro a0 a1 a2 k;have ih0:=impl_items.mono_l k;unfold impl_items.f
 repeat' first|(with_reducible exact ih0 _ _ _)|(with_reducible exact impl_byteReader_value.mono _ _ _)|(with_reducible exact zQ _)|(with_reducible exact zN _)|(with_reducible refine zP ?_ ?_)|(with_reducible refine zO ?_ (fun _ => ?_))|refine zP ?_ ?_|refine zO ?_ (fun _ => ?_)
set_option maxHeartbeats 8000000 in
set_option maxRecDepth 100000 in
theorem impl_items.calls (k : Nat) (a0_0 : Int) (a0_1 : Int) (a0_2 : ByteArray) (r1 : List (S33)) (r2 : Bool) (w : World) (h : impl_items.f k a0_0 a0_1 a0_2=some (r1,r2)) :
  Calls Try.prog 86 #[.agg #[.int .i64 a0_0,.int .i64 a0_1,.string a0_2]] w fun e w' => ∃ v0_ : Value,e = .returned (.tuple #[v0_,.bool r2])∧Kd.R k33 33 w' w.heap.size (fun _ => True) v0_ r1∧Below w.heap.size w w':=by
 have hu33:=Try.underlying33;have hu54:=Try.underlying54;have HB:=zh (Below.refl w.heap.size w);have H : (impl_items.l0 k (([] : List (S33))) a0_2 false)=some (r1,r2):=h;clear h;obtain ⟨y355,hy355⟩ : ∃ y_ : List (S33),y_=(([] : List (S33))):=⟨_,rfl⟩;replace H : (impl_items.l0 k y355 a0_2 false)=some (r1,r2):=by first|(rw [hy355];with_reducible exact H)|(have H2_:=(Option.bind_some _ _).symm.trans H;rw [hy355];with_reducible exact H2_)|(have H2_:=(Option.bind_some _ _).symm.trans H;with_reducible exact H2_)|with_reducible exact H|(rw [hy355];exact H)|exact H
 have Ny355:=zh hy355;clear hy355;have H':=zh H;clear H
 go_enter Try.func86,Try.ntmps86
 go_wp2_with (first|((with_reducible refine zK (N:=1) rfl ?_);refine zI ?hg (N:=1) ?hd (cs:=#[.int .i64 a0_0,.int .i64 a0_1,.string a0_2]) (t:=33) ?hr ?_;(case hd => rfl);(case hg => rfl);(case hr => first|(go_simp;done)|(go_simp;rfl));intro gb353 hg w2 hbox hb;have BK353:=zh (hbox);have GW353:=zh ((by rw [hg];exact (zB (by repeat (with_reducible first|exact HB.out|apply za|apply zb|apply zc))) : w.heap.size≤gb353));have GE353:=zh ((by rw [hg];exact (zB (by repeat (with_reducible first|exact HB.out|apply za|apply zb|apply zc))) : w.heap.size≤gb353));replace HB:=zh (zC (by repeat (with_reducible first|exact HB.out|apply za|apply zb|apply zc)) hb);clear hb hbox hg;have hcz3_0 : w2.cell? ⟨gb353,0,none⟩=some (.int .i64 a0_0):=(zz BK353.out 0).trans rfl;have hcz3_1 : w2.cell? ⟨gb353,1,none⟩=some (.int .i64 a0_1):=(zz BK353.out 1).trans rfl;have hcz3_2 : w2.cell? ⟨gb353,2,none⟩=some (.string a0_2):=(zz BK353.out 2).trans rfl;have hfz3_0:=zA BK353.out 0;have hfz3_1:=zA BK353.out 1;have hfz3_2:=zA BK353.out 2)|((with_reducible refine zK (N:=9) rfl ?_);refine zI ?hg (N:=9) ?hd (cs:=#[.string a0_2,.bool false]) (t:=54) ?hr ?_;(case hd => rfl);(case hg => rfl);(case hr => first|(go_simp;done)|(go_simp;rfl));intro gb354 hg w4 hbox hb;have BK354:=zh (hbox);have GW354:=zh ((by rw [hg];exact (zB (by repeat (with_reducible first|exact HB.out|apply za|apply zb|apply zc|refine zd ?_ GE353.out))) : w.heap.size≤gb354));have GE354:=zh ((by rw [hg];exact (zB (by repeat (with_reducible first|exact HB.out|apply za|apply zb|apply zc|refine zd ?_ GE353.out))) : w.heap.size≤gb354));replace HB:=zh (zC (by repeat (with_reducible first|exact HB.out|apply za|apply zb|apply zc|refine zd ?_ GE353.out)) hb);have NB353_354:=zh ((by rw [hg];exact yc (yi (g:=gb353) (o:=.cells #[.int .i64 a0_0,.int .i64 a0_1,.string a0_2] 33 (0,0)) (by (with_reducible repeat (first|refine ze ?_ _|refine zf ?_|refine zg ?_ _));exact BK353.out)) : gb353≠gb354));have NB354_353:=zh ((by rw [hg];exact yd (yi (g:=gb353) (o:=.cells #[.int .i64 a0_0,.int .i64 a0_1,.string a0_2] 33 (0,0)) (by (with_reducible repeat (first|refine ze ?_ _|refine zf ?_|refine zg ?_ _));exact BK353.out)) : gb354≠gb353));replace BK353:=zh (zD (g:=gb353) (o:=.cells #[.int .i64 a0_0,.int .i64 a0_1,.string a0_2] 33 (0,0)) (by (with_reducible repeat (first|refine ze ?_ _|refine zf ?_|refine zg ?_ _));exact BK353.out) hb);clear hb hbox hg)|((with_reducible refine zK (N:=10) rfl ?_);refine Kd.R_lit k33 _ 33 ?hg (N:=10) ?hd (xs:=([] : List (S33))) (inner:=[]) (ok:=fun _ => True) (okp:=fun _ => True) ?hr ?hp (fun _ hk => hk) trivial (Below.refl _ _) (ye _) (by simp) ?_;(case hd => rfl);(case hg => rfl);(case hr => first|(go_simp;done)|(go_simp;rfl));(case hp => exact (Reps.none _ _));intro v356 w5 ho6 hb hg_ hnew_;clear hg_ hnew_;(first|rw [← Ny355.out] at ho6|(simp only [Int.reduceToNat] at ho6;rw [← Ny355.out] at ho6));have HO357:=zh (yy (Kd.R_newB ho6 (g:=gb353) (o:=.cells #[.int .i64 a0_0,.int .i64 a0_1,.string a0_2] 33 (0,0)) (by (with_reducible repeat (first|refine ze ?_ _|refine zf ?_|refine zg ?_ _));exact BK353.out)) (zB (by repeat (with_reducible first|exact HB.out|apply za|apply zb|apply zc|refine zd ?_ GE353.out|refine zd ?_ GE354.out))));replace BK353:=zh (zD (g:=gb353) (o:=.cells #[.int .i64 a0_0,.int .i64 a0_1,.string a0_2] 33 (0,0)) (by (with_reducible repeat (first|refine ze ?_ _|refine zf ?_|refine zg ?_ _));exact BK353.out) hb);replace BK354:=zh (zD (g:=gb354) (o:=.cells #[.string a0_2,.bool false] 54 (0,0)) (by (with_reducible repeat (first|refine ze ?_ _|refine zf ?_|refine zg ?_ _));exact BK354.out) hb);replace HB:=zh (zC (by repeat (with_reducible first|exact HB.out|apply za|apply zb|apply zc|refine zd ?_ GE353.out|refine zd ?_ GE354.out)) hb);clear hb ho6))
 repeat (go_quiet (first|((with_reducible refine zK (N:=1) rfl ?_);refine zI ?hg (N:=1) ?hd (cs:=#[.int .i64 a0_0,.int .i64 a0_1,.string a0_2]) (t:=33) ?hr ?_;(case hd => rfl);(case hg => rfl);(case hr => first|(go_simp;done)|(go_simp;rfl));intro gb353 hg w2 hbox hb;have BK353:=zh (hbox);have GW353:=zh ((by rw [hg];exact (zB (by repeat (with_reducible first|exact HB.out|apply za|apply zb|apply zc))) : w.heap.size≤gb353));have GE353:=zh ((by rw [hg];exact (zB (by repeat (with_reducible first|exact HB.out|apply za|apply zb|apply zc))) : w.heap.size≤gb353));replace HB:=zh (zC (by repeat (with_reducible first|exact HB.out|apply za|apply zb|apply zc)) hb);clear hb hbox hg;have hcz3_0 : w2.cell? ⟨gb353,0,none⟩=some (.int .i64 a0_0):=(zz BK353.out 0).trans rfl;have hcz3_1 : w2.cell? ⟨gb353,1,none⟩=some (.int .i64 a0_1):=(zz BK353.out 1).trans rfl;have hcz3_2 : w2.cell? ⟨gb353,2,none⟩=some (.string a0_2):=(zz BK353.out 2).trans rfl;have hfz3_0:=zA BK353.out 0;have hfz3_1:=zA BK353.out 1;have hfz3_2:=zA BK353.out 2)|((with_reducible refine zK (N:=9) rfl ?_);refine zI ?hg (N:=9) ?hd (cs:=#[.string a0_2,.bool false]) (t:=54) ?hr ?_;(case hd => rfl);(case hg => rfl);(case hr => first|(go_simp;done)|(go_simp;rfl));intro gb354 hg w4 hbox hb;have BK354:=zh (hbox);have GW354:=zh ((by rw [hg];exact (zB (by repeat (with_reducible first|exact HB.out|apply za|apply zb|apply zc|refine zd ?_ GE353.out))) : w.heap.size≤gb354));have GE354:=zh ((by rw [hg];exact (zB (by repeat (with_reducible first|exact HB.out|apply za|apply zb|apply zc|refine zd ?_ GE353.out))) : w.heap.size≤gb354));replace HB:=zh (zC (by repeat (with_reducible first|exact HB.out|apply za|apply zb|apply zc|refine zd ?_ GE353.out)) hb);have NB353_354:=zh ((by rw [hg];exact yc (yi (g:=gb353) (o:=.cells #[.int .i64 a0_0,.int .i64 a0_1,.string a0_2] 33 (0,0)) (by (with_reducible repeat (first|refine ze ?_ _|refine zf ?_|refine zg ?_ _));exact BK353.out)) : gb353≠gb354));have NB354_353:=zh ((by rw [hg];exact yd (yi (g:=gb353) (o:=.cells #[.int .i64 a0_0,.int .i64 a0_1,.string a0_2] 33 (0,0)) (by (with_reducible repeat (first|refine ze ?_ _|refine zf ?_|refine zg ?_ _));exact BK353.out)) : gb354≠gb353));replace BK353:=zh (zD (g:=gb353) (o:=.cells #[.int .i64 a0_0,.int .i64 a0_1,.string a0_2] 33 (0,0)) (by (with_reducible repeat (first|refine ze ?_ _|refine zf ?_|refine zg ?_ _));exact BK353.out) hb);clear hb hbox hg)|((with_reducible refine zK (N:=10) rfl ?_);refine Kd.R_lit k33 _ 33 ?hg (N:=10) ?hd (xs:=([] : List (S33))) (inner:=[]) (ok:=fun _ => True) (okp:=fun _ => True) ?hr ?hp (fun _ hk => hk) trivial (Below.refl _ _) (ye _) (by simp) ?_;(case hd => rfl);(case hg => rfl);(case hr => first|(go_simp;done)|(go_simp;rfl));(case hp => exact (Reps.none _ _));intro v356 w5 ho6 hb hg_ hnew_;clear hg_ hnew_;(first|rw [← Ny355.out] at ho6|(simp only [Int.reduceToNat] at ho6;rw [← Ny355.out] at ho6));have HO357:=zh (yy (Kd.R_newB ho6 (g:=gb353) (o:=.cells #[.int .i64 a0_0,.int .i64 a0_1,.string a0_2] 33 (0,0)) (by (with_reducible repeat (first|refine ze ?_ _|refine zf ?_|refine zg ?_ _));exact BK353.out)) (zB (by repeat (with_reducible first|exact HB.out|apply za|apply zb|apply zc|refine zd ?_ GE353.out|refine zd ?_ GE354.out))));replace BK353:=zh (zD (g:=gb353) (o:=.cells #[.int .i64 a0_0,.int .i64 a0_1,.string a0_2] 33 (0,0)) (by (with_reducible repeat (first|refine ze ?_ _|refine zf ?_|refine zg ?_ _));exact BK353.out) hb);replace BK354:=zh (zD (g:=gb354) (o:=.cells #[.string a0_2,.bool false] 54 (0,0)) (by (with_reducible repeat (first|refine ze ?_ _|refine zf ?_|refine zg ?_ _));exact BK354.out) hb);replace HB:=zh (zC (by repeat (with_reducible first|exact HB.out|apply za|apply zb|apply zc|refine zd ?_ GE353.out|refine zd ?_ GE354.out)) hb);clear hb ho6));try go_wp2_with (first|((with_reducible refine zK (N:=1) rfl ?_);refine zI ?hg (N:=1) ?hd (cs:=#[.int .i64 a0_0,.int .i64 a0_1,.string a0_2]) (t:=33) ?hr ?_;(case hd => rfl);(case hg => rfl);(case hr => first|(go_simp;done)|(go_simp;rfl));intro gb353 hg w2 hbox hb;have BK353:=zh (hbox);have GW353:=zh ((by rw [hg];exact (zB (by repeat (with_reducible first|exact HB.out|apply za|apply zb|apply zc))) : w.heap.size≤gb353));have GE353:=zh ((by rw [hg];exact (zB (by repeat (with_reducible first|exact HB.out|apply za|apply zb|apply zc))) : w.heap.size≤gb353));replace HB:=zh (zC (by repeat (with_reducible first|exact HB.out|apply za|apply zb|apply zc)) hb);clear hb hbox hg;have hcz3_0 : w2.cell? ⟨gb353,0,none⟩=some (.int .i64 a0_0):=(zz BK353.out 0).trans rfl;have hcz3_1 : w2.cell? ⟨gb353,1,none⟩=some (.int .i64 a0_1):=(zz BK353.out 1).trans rfl;have hcz3_2 : w2.cell? ⟨gb353,2,none⟩=some (.string a0_2):=(zz BK353.out 2).trans rfl;have hfz3_0:=zA BK353.out 0;have hfz3_1:=zA BK353.out 1;have hfz3_2:=zA BK353.out 2)|((with_reducible refine zK (N:=9) rfl ?_);refine zI ?hg (N:=9) ?hd (cs:=#[.string a0_2,.bool false]) (t:=54) ?hr ?_;(case hd => rfl);(case hg => rfl);(case hr => first|(go_simp;done)|(go_simp;rfl));intro gb354 hg w4 hbox hb;have BK354:=zh (hbox);have GW354:=zh ((by rw [hg];exact (zB (by repeat (with_reducible first|exact HB.out|apply za|apply zb|apply zc|refine zd ?_ GE353.out))) : w.heap.size≤gb354));have GE354:=zh ((by rw [hg];exact (zB (by repeat (with_reducible first|exact HB.out|apply za|apply zb|apply zc|refine zd ?_ GE353.out))) : w.heap.size≤gb354));replace HB:=zh (zC (by repeat (with_reducible first|exact HB.out|apply za|apply zb|apply zc|refine zd ?_ GE353.out)) hb);have NB353_354:=zh ((by rw [hg];exact yc (yi (g:=gb353) (o:=.cells #[.int .i64 a0_0,.int .i64 a0_1,.string a0_2] 33 (0,0)) (by (with_reducible repeat (first|refine ze ?_ _|refine zf ?_|refine zg ?_ _));exact BK353.out)) : gb353≠gb354));have NB354_353:=zh ((by rw [hg];exact yd (yi (g:=gb353) (o:=.cells #[.int .i64 a0_0,.int .i64 a0_1,.string a0_2] 33 (0,0)) (by (with_reducible repeat (first|refine ze ?_ _|refine zf ?_|refine zg ?_ _));exact BK353.out)) : gb354≠gb353));replace BK353:=zh (zD (g:=gb353) (o:=.cells #[.int .i64 a0_0,.int .i64 a0_1,.string a0_2] 33 (0,0)) (by (with_reducible repeat (first|refine ze ?_ _|refine zf ?_|refine zg ?_ _));exact BK353.out) hb);clear hb hbox hg)|((with_reducible refine zK (N:=10) rfl ?_);refine Kd.R_lit k33 _ 33 ?hg (N:=10) ?hd (xs:=([] : List (S33))) (inner:=[]) (ok:=fun _ => True) (okp:=fun _ => True) ?hr ?hp (fun _ hk => hk) trivial (Below.refl _ _) (ye _) (by simp) ?_;(case hd => rfl);(case hg => rfl);(case hr => first|(go_simp;done)|(go_simp;rfl));(case hp => exact (Reps.none _ _));intro v356 w5 ho6 hb hg_ hnew_;clear hg_ hnew_;(first|rw [← Ny355.out] at ho6|(simp only [Int.reduceToNat] at ho6;rw [← Ny355.out] at ho6));have HO357:=zh (yy (Kd.R_newB ho6 (g:=gb353) (o:=.cells #[.int .i64 a0_0,.int .i64 a0_1,.string a0_2] 33 (0,0)) (by (with_reducible repeat (first|refine ze ?_ _|refine zf ?_|refine zg ?_ _));exact BK353.out)) (zB (by repeat (with_reducible first|exact HB.out|apply za|apply zb|apply zc|refine zd ?_ GE353.out|refine zd ?_ GE354.out))));replace BK353:=zh (zD (g:=gb353) (o:=.cells #[.int .i64 a0_0,.int .i64 a0_1,.string a0_2] 33 (0,0)) (by (with_reducible repeat (first|refine ze ?_ _|refine zf ?_|refine zg ?_ _));exact BK353.out) hb);replace BK354:=zh (zD (g:=gb354) (o:=.cells #[.string a0_2,.bool false] 54 (0,0)) (by (with_reducible repeat (first|refine ze ?_ _|refine zf ?_|refine zg ?_ _));exact BK354.out) hb);replace HB:=zh (zC (by repeat (with_reducible first|exact HB.out|apply za|apply zb|apply zc|refine zd ?_ GE353.out|refine zd ?_ GE354.out)) hb);clear hb ho6)))
 go_loopg [5] k (fun kq v5 w' => ∃ (x5_1 : List (S33)) (x355000_1 : ByteArray) (x355001_1 : Bool),Aside0 (impl_items.l0 kq x5_1 x355000_1 x355001_1=some (r1,r2))∧Aside0 (kq≤k)∧Aside0 (Kd.R k33 33 w' w.heap.size (fun k_ => k_≠gb353) v5 x5_1)∧Aside0 (w'.heap[gb353]? = some (.cells #[.int .i64 a0_0,.int .i64 a0_1,.string a0_2] 33 (0,0)))∧Aside0 (w'.heap[gb354]? = some (.cells #[.string x355000_1,.bool x355001_1] 54 (0,0)))∧Aside0 (Below w.heap.size w w'))
 case atStart => exact ⟨(y355),(a0_2),(false),H',⟨ye _⟩,⟨by (with_reducible repeat (first|apply zm|apply zn|apply zo));exact zM HO357.out (fun _ hk => hk.2)⟩,⟨by (with_reducible repeat (first|refine ze ?_ _|refine zf ?_|refine zg ?_ _));exact BK353.out⟩,⟨by (with_reducible repeat (first|refine ze ?_ _|refine zf ?_|refine zg ?_ _));exact BK354.out⟩,⟨by repeat (with_reducible first|exact HB.out|apply za|apply zb|apply zc|refine zd ?_ GE353.out|refine zd ?_ GE354.out)⟩⟩
 case round =>
  clear H'
  try clear p2
  try clear hcz3_0
  try clear hcz3_1
  try clear hcz3_2
  try clear hfz3_0
  try clear hfz3_1
  try clear hfz3_2
  obtain ⟨x5_1,x355000_1,x355001_1,HA,HK1,HO_5,BK353,BK354,HB⟩:=hrel
  cases gk with
  | zero => exact absurd HA.out (by simp [impl_items.l0])
  | succ k1 =>
   have H:=HA.out;clear HA;simp only [impl_items.l0] at H
   by_cases c7 : x355000_1.toList=([] : List UInt8)
   ·
    rw [if_pos c7] at H
    have c7b0 : (x355000_1.toList == ([] : List UInt8))=true:=ya.mpr c7;have c7b1 : (x355000_1.toList != ([] : List UInt8))=false:=zX.mpr c7;clear c7;simp only [Option.some.injEq,Prod.mk.injEq] at H;obtain ⟨rfl,rfl⟩:=H;have hnb8:=NB354_353.out;have hnc8:=NB353_354.out;have hcz9_0 : wr.cell? ⟨gb354,0,none⟩=some (.string x355000_1):=(zz BK354.out 0).trans rfl;have hcz9_1 : wr.cell? ⟨gb354,1,none⟩=some (.bool x355001_1):=(zz BK354.out 1).trans rfl;have hfz9_0:=zA BK354.out 0;have hfz9_1:=zA BK354.out 1
    go_wp2
    repeat (go_quiet (fail);try go_wp2)
    go_ret2
    exact ⟨_,by first|rfl|(simp [yt,yu] <;> rfl)|(simp [*,yt,yu] <;> rfl),by (with_reducible repeat (first|apply zm|apply zn|apply zo));exact zM HO_5.out (fun _ hk => trivial),by repeat (with_reducible first|exact HB.out|apply za|apply zb|apply zc|refine zd ?_ GE353.out|refine zd ?_ GE354.out)⟩
   rw [if_neg c7] at H;have c7b0 : (x355000_1.toList == ([] : List UInt8))=false:=zY.mpr c7;have c7b1 : (x355000_1.toList != ([] : List UInt8))=true:=zZ.mpr c7
   by_cases c10 : x355001_1=true
   ·
    subst c10
    have H1 : (some (x5_1,!true))=some (r1,r2):=by rw [if_pos rfl] at H;exact H
    clear H;have H:=H1;clear H1;simp only [Option.some.injEq,Prod.mk.injEq] at H;obtain ⟨rfl,rfl⟩:=H;have hnb11:=NB354_353.out;have hnc11:=NB353_354.out;have hcz12_0 : wr.cell? ⟨gb354,0,none⟩=some (.string x355000_1):=(zz BK354.out 0).trans rfl;have hcz12_1 : wr.cell? ⟨gb354,1,none⟩=some (.bool true):=(zz BK354.out 1).trans rfl;have hfz12_0:=zA BK354.out 0;have hfz12_1:=zA BK354.out 1
    go_wp2
    repeat (go_quiet (fail);try go_wp2)
    go_ret2
    exact ⟨_,by first|rfl|(simp [yt,yu] <;> rfl)|(simp [*,yt,yu] <;> rfl),by (with_reducible repeat (first|apply zm|apply zn|apply zo));exact zM HO_5.out (fun _ hk => trivial),by repeat (with_reducible first|exact HB.out|apply za|apply zb|apply zc|refine zd ?_ GE353.out|refine zd ?_ GE354.out)⟩
   replace c10:=yb.mpr c10;subst c10;have H1 : ((impl_byteReader_value.f k1 x355000_1 false).bind fun bt358 => (if x5_1.length<4398046511104 then (impl_items.l0 k1 (x5_1 ++ [(⟨bt358.1,bt358.2.1,bt358.2.2.1⟩ : S33)]) bt358.2.2.2.1 bt358.2.2.2.2) else (none)))=some (r1,r2):=by rw [if_neg (show ¬ (false=true) by decide)] at H;exact H
   clear H;have H:=H1;clear H1;replace H:=zT.mp H;obtain ⟨⟨t358,t359,t360,t361,t362⟩,A130,H⟩:=H;replace H : (if x5_1.length<4398046511104 then (impl_items.l0 k1 (x5_1 ++ [(⟨t358,t359,t360⟩ : S33)]) t361 t362) else (none))=some (r1,r2):=H;have A13:=zh A130;clear A130
   by_cases c14 : x5_1.length<4398046511104
   ·
    rw [if_pos c14] at H
    have LMc14:=zh c14;clear c14;obtain ⟨y363,hy363⟩ : ∃ y_ : List (S33),y_=(x5_1 ++ [(⟨t358,t359,t360⟩ : S33)]):=⟨_,rfl⟩;replace H : (impl_items.l0 k1 y363 t361 t362)=some (r1,r2):=by first|(rw [hy363];with_reducible exact H)|(have H2_:=(Option.bind_some _ _).symm.trans H;rw [hy363];with_reducible exact H2_)|(have H2_:=(Option.bind_some _ _).symm.trans H;with_reducible exact H2_)|with_reducible exact H|(rw [hy363];exact H)|exact H
    have Ny363:=zh hy363;clear hy363;have H':=zh H;clear H;have hnb15:=NB354_353.out;have hnc15:=NB353_354.out;have hcz16_0 : wr.cell? ⟨gb354,0,none⟩=some (.string x355000_1):=(zz BK354.out 0).trans rfl;have hcz16_1 : wr.cell? ⟨gb354,1,none⟩=some (.bool false):=(zz BK354.out 1).trans rfl;have hfz16_0:=zA BK354.out 0;have hfz16_1:=zA BK354.out 1;have HI354:=zh (show IsS54 w wr gb354 x355000_1 false from ⟨BK354.out,GE354.out⟩)
    go_wp2_with (first|(go_at_call 107;(with_reducible refine (impl_byteReader_value.calls k1  gb354 x355000_1 false t358 t359 t360 t361 t362 w _ ?side1 ?side2 A13.out).mono ?_);(case side1 => repeat (with_reducible first|exact HI354.out|apply IsS54.alloc|apply IsS54.drewN|apply IsS54.drew|apply IsS54.set_0|apply IsS54.set_1|refine IsS54.far ?_ NB354_353.out _));(case side2 => repeat (with_reducible first|exact HB.out|apply za|apply zb|apply zc|refine zd ?_ (IsS54.ge HI354.out)|refine zd ?_ GE353.out));rintro e w17 ⟨rfl,hi,hb,hk⟩;replace HO_5:=zh (zM (Kd.R_keep (IsS54.apart (show IsS54 w _ gb354 x355000_1 false from by repeat (with_reducible first|exact HI354.out|apply IsS54.alloc|apply IsS54.drewN|apply IsS54.drew|apply IsS54.set_0|apply IsS54.set_1|refine IsS54.far ?_ NB354_353.out _)) (by (with_reducible repeat (first|apply zm|apply zn|apply zo));exact HO_5.out) (by decide)) hk (fun _ h => h.2)) (fun _ h => h.1));replace BK353:=zh (KeepBut.blk hk (g':=gb353) (o:=.cells #[.int .i64 a0_0,.int .i64 a0_1,.string a0_2] 33 (0,0)) (by (with_reducible repeat (first|refine ze ?_ _|refine zf ?_|refine zg ?_ _));exact BK353.out) NB353_354.out (by simp));replace HB:=zh (hb);replace BK354:=zh ((show _∧_ from hi).1);clear HI354;(try clear hb);(try clear hb2);(try clear hk);(try clear hi))|((with_reducible refine yB (b:=.append) (xs:=#[.tmp 23,.tmp 26]) rfl ?_);at_builtin;refine Kd.R_append k33 (w0:=w) w.heap.size rfl (.tmp 23) (.tmp 26) 95 33 (.agg #[(.int .i64 0),(.int .i64 0),(.string ⟨#[]⟩)]) 32 rfl Try.underlying95 info33 rfl (by decide) (by omega) u5 x5_1 (⟨t358,t359,t360⟩ : S33) [.int .i64 t358,.int .i64 t359,.string t360] (fun k_ => k_≠gb353) (fun _ => False) rfl rfl ?aP (fun _ hk => hk.elim) ?aF ?aO ?aB ?aS ?aL ?_;(case aP => exact k33_mkM _ _ _ (⟨t358,t359,t360⟩ : S33));(case aB => exact (by repeat (with_reducible first|exact HB.out|apply za|apply zb|apply zc|refine zd ?_ GE353.out|refine zd ?_ GE354.out)));(case aF => exact (fun k_ hk => Kd.freshB (g:=gb353) (o:=.cells #[.int .i64 a0_0,.int .i64 a0_1,.string a0_2] 33 (0,0)) (by (with_reducible repeat (first|refine ze ?_ _|refine zf ?_|refine zg ?_ _));exact BK353.out) k_ hk));(case aO => exact (by (with_reducible repeat (first|apply zm|apply zn|apply zo));exact HO_5.out));(case aS => exact (zB (by repeat (with_reducible first|exact HB.out|apply za|apply zb|apply zc|refine zd ?_ GE353.out|refine zd ?_ GE354.out))));(case aL => have:=LMc14.out;omega);intro v364 w18 ho hb hg hat;rw [← Ny363.out] at ho;replace BK353:=zh (yw (g:=gb353) (o:=.cells #[.int .i64 a0_0,.int .i64 a0_1,.string a0_2] 33 (0,0)) (by (with_reducible repeat (first|refine ze ?_ _|refine zf ?_|refine zg ?_ _));exact BK353.out) hg (yv HO_5.out (fun _ hk => hk)));replace BK354:=zh (yw (g:=gb354) (o:=.cells #[.string t361,.bool t362] 54 (0,0)) (by (with_reducible repeat (first|refine ze ?_ _|refine zf ?_|refine zg ?_ _));exact BK354.out) hg (Kd.R_ne HO_5.out BK354.out (by decide)));replace HB:=zh (hb);have HO365:=zh (ho);clear HO_5 ho hb hg hat))
    repeat (go_quiet (first|(go_at_call 107;(with_reducible refine (impl_byteReader_value.calls k1  gb354 x355000_1 false t358 t359 t360 t361 t362 w _ ?side1 ?side2 A13.out).mono ?_);(case side1 => repeat (with_reducible first|exact HI354.out|apply IsS54.alloc|apply IsS54.drewN|apply IsS54.drew|apply IsS54.set_0|apply IsS54.set_1|refine IsS54.far ?_ NB354_353.out _));(case side2 => repeat (with_reducible first|exact HB.out|apply za|apply zb|apply zc|refine zd ?_ (IsS54.ge HI354.out)|refine zd ?_ GE353.out));rintro e w17 ⟨rfl,hi,hb,hk⟩;replace HO_5:=zh (zM (Kd.R_keep (IsS54.apart (show IsS54 w _ gb354 x355000_1 false from by repeat (with_reducible first|exact HI354.out|apply IsS54.alloc|apply IsS54.drewN|apply IsS54.drew|apply IsS54.set_0|apply IsS54.set_1|refine IsS54.far ?_ NB354_353.out _)) (by (with_reducible repeat (first|apply zm|apply zn|apply zo));exact HO_5.out) (by decide)) hk (fun _ h => h.2)) (fun _ h => h.1));replace BK353:=zh (KeepBut.blk hk (g':=gb353) (o:=.cells #[.int .i64 a0_0,.int .i64 a0_1,.string a0_2] 33 (0,0)) (by (with_reducible repeat (first|refine ze ?_ _|refine zf ?_|refine zg ?_ _));exact BK353.out) NB353_354.out (by simp));replace HB:=zh (hb);replace BK354:=zh ((show _∧_ from hi).1);clear HI354;(try clear hb);(try clear hb2);(try clear hk);(try clear hi))|((with_reducible refine yB (b:=.append) (xs:=#[.tmp 23,.tmp 26]) rfl ?_);at_builtin;refine Kd.R_append k33 (w0:=w) w.heap.size rfl (.tmp 23) (.tmp 26) 95 33 (.agg #[(.int .i64 0),(.int .i64 0),(.string ⟨#[]⟩)]) 32 rfl Try.underlying95 info33 rfl (by decide) (by omega) u5 x5_1 (⟨t358,t359,t360⟩ : S33) [.int .i64 t358,.int .i64 t359,.string t360] (fun k_ => k_≠gb353) (fun _ => False) rfl rfl ?aP (fun _ hk => hk.elim) ?aF ?aO ?aB ?aS ?aL ?_;(case aP => exact k33_mkM _ _ _ (⟨t358,t359,t360⟩ : S33));(case aB => exact (by repeat (with_reducible first|exact HB.out|apply za|apply zb|apply zc|refine zd ?_ GE353.out|refine zd ?_ GE354.out)));(case aF => exact (fun k_ hk => Kd.freshB (g:=gb353) (o:=.cells #[.int .i64 a0_0,.int .i64 a0_1,.string a0_2] 33 (0,0)) (by (with_reducible repeat (first|refine ze ?_ _|refine zf ?_|refine zg ?_ _));exact BK353.out) k_ hk));(case aO => exact (by (with_reducible repeat (first|apply zm|apply zn|apply zo));exact HO_5.out));(case aS => exact (zB (by repeat (with_reducible first|exact HB.out|apply za|apply zb|apply zc|refine zd ?_ GE353.out|refine zd ?_ GE354.out))));(case aL => have:=LMc14.out;omega);intro v364 w18 ho hb hg hat;rw [← Ny363.out] at ho;replace BK353:=zh (yw (g:=gb353) (o:=.cells #[.int .i64 a0_0,.int .i64 a0_1,.string a0_2] 33 (0,0)) (by (with_reducible repeat (first|refine ze ?_ _|refine zf ?_|refine zg ?_ _));exact BK353.out) hg (yv HO_5.out (fun _ hk => hk)));replace BK354:=zh (yw (g:=gb354) (o:=.cells #[.string t361,.bool t362] 54 (0,0)) (by (with_reducible repeat (first|refine ze ?_ _|refine zf ?_|refine zg ?_ _));exact BK354.out) hg (Kd.R_ne HO_5.out BK354.out (by decide)));replace HB:=zh (hb);have HO365:=zh (ho);clear HO_5 ho hb hg hat));try go_wp2_with (first|(go_at_call 107;(with_reducible refine (impl_byteReader_value.calls k1  gb354 x355000_1 false t358 t359 t360 t361 t362 w _ ?side1 ?side2 A13.out).mono ?_);(case side1 => repeat (with_reducible first|exact HI354.out|apply IsS54.alloc|apply IsS54.drewN|apply IsS54.drew|apply IsS54.set_0|apply IsS54.set_1|refine IsS54.far ?_ NB354_353.out _));(case side2 => repeat (with_reducible first|exact HB.out|apply za|apply zb|apply zc|refine zd ?_ (IsS54.ge HI354.out)|refine zd ?_ GE353.out));rintro e w17 ⟨rfl,hi,hb,hk⟩;replace HO_5:=zh (zM (Kd.R_keep (IsS54.apart (show IsS54 w _ gb354 x355000_1 false from by repeat (with_reducible first|exact HI354.out|apply IsS54.alloc|apply IsS54.drewN|apply IsS54.drew|apply IsS54.set_0|apply IsS54.set_1|refine IsS54.far ?_ NB354_353.out _)) (by (with_reducible repeat (first|apply zm|apply zn|apply zo));exact HO_5.out) (by decide)) hk (fun _ h => h.2)) (fun _ h => h.1));replace BK353:=zh (KeepBut.blk hk (g':=gb353) (o:=.cells #[.int .i64 a0_0,.int .i64 a0_1,.string a0_2] 33 (0,0)) (by (with_reducible repeat (first|refine ze ?_ _|refine zf ?_|refine zg ?_ _));exact BK353.out) NB353_354.out (by simp));replace HB:=zh (hb);replace BK354:=zh ((show _∧_ from hi).1);clear HI354;(try clear hb);(try clear hb2);(try clear hk);(try clear hi))|((with_reducible refine yB (b:=.append) (xs:=#[.tmp 23,.tmp 26]) rfl ?_);at_builtin;refine Kd.R_append k33 (w0:=w) w.heap.size rfl (.tmp 23) (.tmp 26) 95 33 (.agg #[(.int .i64 0),(.int .i64 0),(.string ⟨#[]⟩)]) 32 rfl Try.underlying95 info33 rfl (by decide) (by omega) u5 x5_1 (⟨t358,t359,t360⟩ : S33) [.int .i64 t358,.int .i64 t359,.string t360] (fun k_ => k_≠gb353) (fun _ => False) rfl rfl ?aP (fun _ hk => hk.elim) ?aF ?aO ?aB ?aS ?aL ?_;(case aP => exact k33_mkM _ _ _ (⟨t358,t359,t360⟩ : S33));(case aB => exact (by repeat (with_reducible first|exact HB.out|apply za|apply zb|apply zc|refine zd ?_ GE353.out|refine zd ?_ GE354.out)));(case aF => exact (fun k_ hk => Kd.freshB (g:=gb353) (o:=.cells #[.int .i64 a0_0,.int .i64 a0_1,.string a0_2] 33 (0,0)) (by (with_reducible repeat (first|refine ze ?_ _|refine zf ?_|refine zg ?_ _));exact BK353.out) k_ hk));(case aO => exact (by (with_reducible repeat (first|apply zm|apply zn|apply zo));exact HO_5.out));(case aS => exact (zB (by repeat (with_reducible first|exact HB.out|apply za|apply zb|apply zc|refine zd ?_ GE353.out|refine zd ?_ GE354.out))));(case aL => have:=LMc14.out;omega);intro v364 w18 ho hb hg hat;rw [← Ny363.out] at ho;replace BK353:=zh (yw (g:=gb353) (o:=.cells #[.int .i64 a0_0,.int .i64 a0_1,.string a0_2] 33 (0,0)) (by (with_reducible repeat (first|refine ze ?_ _|refine zf ?_|refine zg ?_ _));exact BK353.out) hg (yv HO_5.out (fun _ hk => hk)));replace BK354:=zh (yw (g:=gb354) (o:=.cells #[.string t361,.bool t362] 54 (0,0)) (by (with_reducible repeat (first|refine ze ?_ _|refine zf ?_|refine zg ?_ _));exact BK354.out) hg (Kd.R_ne HO_5.out BK354.out (by decide)));replace HB:=zh (hb);have HO365:=zh (ho);clear HO_5 ho hb hg hat)))
    go_roundg k1
    case measure => have:=HK1.out;omega
    case rel => exact ⟨(y363),(t361),(t362),H',⟨by have:=HK1.out;omega⟩,⟨by (with_reducible repeat (first|apply zm|apply zn|apply zo));exact HO365.out⟩,⟨by (with_reducible repeat (first|refine ze ?_ _|refine zf ?_|refine zg ?_ _));exact BK353.out⟩,⟨by (with_reducible repeat (first|refine ze ?_ _|refine zf ?_|refine zg ?_ _));exact BK354.out⟩,⟨by repeat (with_reducible first|exact HB.out|apply za|apply zb|apply zc|refine zd ?_ GE353.out|refine zd ?_ GE354.out)⟩⟩
   rw [if_neg c14] at H;exact absurd H (by simp)

end Go.Proofs.Ytlljfjpdflcjlaa.Q
end
section
namespace Go.Proofs.Ytlljfjpdflcjlaa.Q
open Go.RowKit Go.Proofs.YtlljfjpdflcjlaaW.PrintWords Go.Proofs.YtlljfjpdflcjlaaW.PrintLast Go.Proofs.YtlljfjpdflcjlaaW.PrintMore
attribute [local go_sem] max2_int min2_int max_two min_two max_three min_three max_four min_four max2_str min2_str str_geq str_gtr str_leq   -- for this text's walks alone
set_option linter.unusedVariables false
set_option linter.unusedSimpArgs false

def spec_l01Items.l0 : Nat→ByteArray→List (S33)→Option ((List (S33))×Bool)
 | 0,_,_ => none
 | k + 1,x0,x4 => if (x0.size : Int) > 0 then ((spec_l01Next.f k x0).bind fun bt254 => (if bt254.2.2.2.2=true then (if x4.length<4398046511104 then (spec_l01Items.l0 k bt254.2.2.2.1 (x4 ++ [(⟨bt254.1,bt254.2.1,bt254.2.2.1⟩ : S33)])) else (none)) else (some ((([] : List (S33))),false)))) else (some (x4,true))
def spec_l01Items.f (k : Nat) (a0 : ByteArray) : Option ((List (S33))×Bool):=spec_l01Items.l0 k a0 (([] : List (S33)))
theorem spec_l01Items.mono_l : ∀ k,(∀ y0 y1,LeO (spec_l01Items.l0 k y0 y1) (spec_l01Items.l0 (k + 1) y0 y1))
 | 0 => fun _ _ r h => by simp [spec_l01Items.l0] at h
 | k + 1 => by
  have ih0:=spec_l01Items.mono_l k;intro y0 y1;unfold spec_l01Items.l0
  repeat' first|(with_reducible exact ih0 _ _)|(with_reducible exact spec_l01Next.mono _ _)|(with_reducible exact zQ _)|(with_reducible exact zN _)|(with_reducible refine zP ?_ ?_)|(with_reducible refine zO ?_ (fun _ => ?_))|refine zP ?_ ?_|refine zO ?_ (fun _ => ?_)
theorem spec_l01Items.mono : ∀ a0 k,LeO (spec_l01Items.f k a0) (spec_l01Items.f (k + 1) a0):=by
 intro a0 k;have ih0:=spec_l01Items.mono_l k;unfold spec_l01Items.f
 repeat' first|(with_reducible exact ih0 _ _)|(with_reducible exact spec_l01Next.mono _ _)|(with_reducible exact zQ _)|(with_reducible exact zN _)|(with_reducible refine zP ?_ ?_)|(with_reducible refine zO ?_ (fun _ => ?_))|refine zP ?_ ?_|refine zO ?_ (fun _ => ?_)
set_option maxHeartbeats 8000000 in
set_option maxRecDepth 100000 in
theorem spec_l01Items.calls (k : Nat) (a0 : ByteArray) (r1 : List (S33)) (r2 : Bool) (w : World) (h : spec_l01Items.f k a0=some (r1,r2)) :
  Calls Try.prog 95 #[.string a0] w fun e w' => ∃ v0_ : Value,e = .returned (.tuple #[v0_,.bool r2])∧Kd.R k33 33 w' w.heap.size (fun _ => True) v0_ r1∧Below w.heap.size w w':=by
 have hu33:=Try.underlying33;have HB:=zh (Below.refl w.heap.size w);have H : (spec_l01Items.l0 k a0 (([] : List (S33))))=some (r1,r2):=h;clear h;obtain ⟨y251,hy251⟩ : ∃ y_ : List (S33),y_=(([] : List (S33))):=⟨_,rfl⟩;replace H : (spec_l01Items.l0 k a0 y251)=some (r1,r2):=by first|(rw [hy251];with_reducible exact H)|(have H2_:=(Option.bind_some _ _).symm.trans H;rw [hy251];with_reducible exact H2_)|(have H2_:=(Option.bind_some _ _).symm.trans H;with_reducible exact H2_)|with_reducible exact H|(rw [hy251];exact H)|exact H
 have Ny251:=zh hy251;clear hy251;have H':=zh H;clear H
 go_enter Try.func95,Try.ntmps95
 go_wp2_with (first|((with_reducible refine zK (N:=8) rfl ?_);refine Kd.R_lit k33 _ 33 ?hg (N:=8) ?hd (xs:=([] : List (S33))) (inner:=[]) (ok:=fun _ => True) (okp:=fun _ => True) ?hr ?hp (fun _ hk => hk) trivial (Below.refl _ _) (ye _) (by simp) ?_;(case hd => rfl);(case hg => rfl);(case hr => first|(go_simp;done)|(go_simp;rfl));(case hp => exact (Reps.none _ _));intro v252 w2 ho3 hb hg_ hnew_;clear hg_ hnew_;(first|rw [← Ny251.out] at ho3|(simp only [Int.reduceToNat] at ho3;rw [← Ny251.out] at ho3));have HO253:=zh (yy ho3 (zB (by repeat (with_reducible first|exact HB.out|apply za|apply zb|apply zc))));replace HB:=zh (zC (by repeat (with_reducible first|exact HB.out|apply za|apply zb|apply zc)) hb);clear hb ho3))
 go_loopg [0,4] k (fun kq v0 v4 w' => ∃ (x0_1 : ByteArray) (x4_1 : List (S33)),v0 = .string x0_1∧Aside0 (spec_l01Items.l0 kq x0_1 x4_1=some (r1,r2))∧Aside0 (kq≤k)∧Aside0 (Kd.R k33 33 w' w.heap.size (fun _ => True) v4 x4_1)∧Aside0 (Below w.heap.size w w'))
 case atStart => exact ⟨(a0),(y251),(by first|rfl|(simp;done)|(simp [*];done)),H',⟨ye _⟩,⟨by (with_reducible repeat (first|apply zm|apply zn|apply zo));exact HO253.out⟩,⟨by repeat (with_reducible first|exact HB.out|apply za|apply zb|apply zc)⟩⟩
 case round =>
  clear H'
  try clear p2
  obtain ⟨x0_1,x4_1,rfl,HA,HK1,HO_4,HB⟩:=hrel
  cases gk with
  | zero => exact absurd HA.out (by simp [spec_l01Items.l0])
  | succ k1 =>
   have H:=HA.out;clear HA;simp only [spec_l01Items.l0] at H
   by_cases c4 : (x0_1.size : Int) > 0
   ·
    rw [if_pos c4] at H
    have c4b0 : decide (0<(x0_1.size : Int))=true:=decide_eq_true c4;have c4b1 : decide (0<x0_1.size)=true:=decide_eq_true (by omega);clear c4;replace H:=zT.mp H;obtain ⟨⟨t254,t255,t256,t257,t258⟩,A50,H⟩:=H;replace H : (if t258=true then (if x4_1.length<4398046511104 then (spec_l01Items.l0 k1 t257 (x4_1 ++ [(⟨t254,t255,t256⟩ : S33)])) else (none)) else (some ((([] : List (S33))),false)))=some (r1,r2):=H;have A5:=zh A50;clear A50
    by_cases c6 : t258=true
    ·
     subst c6
     have H1 : (if x4_1.length<4398046511104 then (spec_l01Items.l0 k1 t257 (x4_1 ++ [(⟨t254,t255,t256⟩ : S33)])) else (none))=some (r1,r2):=by rw [if_pos rfl] at H;exact H
     clear H;have H:=H1;clear H1
     by_cases c7 : x4_1.length<4398046511104
     ·
      rw [if_pos c7] at H
      have LMc7:=zh c7;clear c7;obtain ⟨y260,hy260⟩ : ∃ y_ : List (S33),y_=(x4_1 ++ [(⟨t254,t255,t256⟩ : S33)]):=⟨_,rfl⟩;replace H : (spec_l01Items.l0 k1 t257 y260)=some (r1,r2):=by first|(rw [hy260];with_reducible exact H)|(have H2_:=(Option.bind_some _ _).symm.trans H;rw [hy260];with_reducible exact H2_)|(have H2_:=(Option.bind_some _ _).symm.trans H;with_reducible exact H2_)|with_reducible exact H|(rw [hy260];exact H)|exact H
      have Ny260:=zh hy260;clear hy260;have H':=zh H;clear H
      go_wp2_with (first|((with_reducible refine zJ (f:=104) rfl ?_);refine yj (some 14) rfl rfl Try.func104 (by kernel_rfl) rfl #[.string x0_1] rfl (by (try simp only [zt,zu,zv]);first|done|rfl|(simp only [zw,zx];rfl)|(simp only [yr,ys,zV,zW];rfl)) ?_;(with_reducible refine (spec_l01Next.calls k1  x0_1 t254 t255 t256 t257 true _ A5.out).mono ?_);rintro e w8 ⟨rfl,hb⟩;refine ⟨_,rfl,?_⟩;replace HO_4:=zh (yg (by (with_reducible repeat (first|apply zm|apply zn|apply zo));exact HO_4.out) hb);replace HB:=zh (zC (by repeat (with_reducible first|exact HB.out|apply za|apply zb|apply zc)) hb);(try clear hb);(try clear hb2);(try clear hk);(try clear hi))|((with_reducible refine zK (N:=5) rfl ?_);refine zI ?hg (N:=5) ?hd (cs:=#[.int .i64 0,.int .i64 0,.string (⟨#[]⟩ : ByteArray)]) (t:=33) ?hr ?_;(case hd => rfl);(case hg => rfl);(case hr => first|(go_simp;done)|(go_simp;rfl));intro gb259 hg w9 hbox hb;replace HO_4:=zh (yg (Kd.R_elderB (by (with_reducible repeat (first|apply zm|apply zn|apply zo));exact HO_4.out) gb259 (Nat.le_of_eq hg.symm)) hb);have BK259:=zh (hbox);have GW259:=zh ((by rw [hg];exact (zB (by repeat (with_reducible first|exact HB.out|apply za|apply zb|apply zc))) : w.heap.size≤gb259));have GE259:=zh ((by rw [hg];exact (zB (by repeat (with_reducible first|exact HB.out|apply za|apply zb|apply zc))) : w.heap.size≤gb259));replace HB:=zh (zC (by repeat (with_reducible first|exact HB.out|apply za|apply zb|apply zc)) hb);clear hb hbox hg;have hcz10_0 : w9.cell? ⟨gb259,0,none⟩=some (.int .i64 0):=(zz BK259.out 0).trans rfl;have hcz10_1 : w9.cell? ⟨gb259,1,none⟩=some (.int .i64 0):=(zz BK259.out 1).trans rfl;have hcz10_2 : w9.cell? ⟨gb259,2,none⟩=some (.string (⟨#[]⟩ : ByteArray)):=(zz BK259.out 2).trans rfl;have hfz10_0:=zA BK259.out 0;have hfz10_1:=zA BK259.out 1;have hfz10_2:=zA BK259.out 2)|((with_reducible refine yB (b:=.append) (xs:=#[.tmp 21,.tmp 23]) rfl ?_);at_builtin;refine Kd.R_append k33 (w0:=w) w.heap.size rfl (.tmp 21) (.tmp 23) 95 33 (.agg #[(.int .i64 0),(.int .i64 0),(.string ⟨#[]⟩)]) 32 rfl Try.underlying95 info33 rfl (by decide) (by omega) u4 x4_1 (⟨t254,t255,t256⟩ : S33) [.int .i64 t254,.int .i64 t255,.string t256] (fun k_ => k_≠gb259) (fun _ => False) rfl (by first|(go_simp;done)|(go_simp;rfl)) ?aP (fun _ hk => hk.elim) ?aF ?aO ?aB ?aS ?aL ?_;(case aP => exact k33_mkM _ _ _ (⟨t254,t255,t256⟩ : S33));(case aB => exact (by repeat (with_reducible first|exact HB.out|apply za|apply zb|apply zc|refine zd ?_ GE259.out)));(case aF => exact (fun k_ hk => Kd.freshB (g:=gb259) (o:=.cells #[.int .i64 t254,.int .i64 t255,.string t256] 33 (0,0)) (by (with_reducible repeat (first|refine ze ?_ _|refine zf ?_|refine zg ?_ _));refine zL (cs:=#[.int .i64 t254,.int .i64 t255,.string (⟨#[]⟩ : ByteArray)]) ?_ 2 _ rfl;(with_reducible repeat (first|refine ze ?_ _|refine zf ?_|refine zg ?_ _));refine zL (cs:=#[.int .i64 t254,.int .i64 0,.string (⟨#[]⟩ : ByteArray)]) ?_ 1 _ rfl;(with_reducible repeat (first|refine ze ?_ _|refine zf ?_|refine zg ?_ _));refine zL (cs:=#[.int .i64 0,.int .i64 0,.string (⟨#[]⟩ : ByteArray)]) ?_ 0 _ rfl;(with_reducible repeat (first|refine ze ?_ _|refine zf ?_|refine zg ?_ _));exact BK259.out) k_ hk));(case aO => exact (by (with_reducible repeat (first|apply zm|apply zn|apply zo));exact zM (zE (p:=⟨gb259,2,none⟩) (zE (p:=⟨gb259,1,none⟩) (zE (p:=⟨gb259,0,none⟩) (zM HO_4.out (fun k_ hk => (⟨hk,hk.2⟩ : _∧k_≠gb259))) (fun _ hk => hk.2) (.int .i64 t254)) (fun _ hk => hk.2) (.int .i64 t255)) (fun _ hk => hk.2) (.string t256)) (fun _ hk => hk.1.2)));(case aS => exact (zB (by repeat (with_reducible first|exact HB.out|apply za|apply zb|apply zc|refine zd ?_ GE259.out))));(case aL => have:=LMc7.out;omega);intro v261 w11 ho hb hg hat;rw [← Ny260.out] at ho;replace BK259:=zh (yw (g:=gb259) (o:=.cells #[.int .i64 t254,.int .i64 t255,.string t256] 33 (0,0)) (by (with_reducible repeat (first|refine ze ?_ _|refine zf ?_|refine zg ?_ _));refine zL (cs:=#[.int .i64 t254,.int .i64 t255,.string (⟨#[]⟩ : ByteArray)]) ?_ 2 _ rfl;(with_reducible repeat (first|refine ze ?_ _|refine zf ?_|refine zg ?_ _));refine zL (cs:=#[.int .i64 t254,.int .i64 0,.string (⟨#[]⟩ : ByteArray)]) ?_ 1 _ rfl;(with_reducible repeat (first|refine ze ?_ _|refine zf ?_|refine zg ?_ _));refine zL (cs:=#[.int .i64 0,.int .i64 0,.string (⟨#[]⟩ : ByteArray)]) ?_ 0 _ rfl;(with_reducible repeat (first|refine ze ?_ _|refine zf ?_|refine zg ?_ _));exact BK259.out) hg (yv HO_4.out (fun _ hk => hk.2)));replace HB:=zh (hb);have HO262:=zh (ho);clear HO_4 ho hb hg hat))
      go_roundg k1
      case measure => have:=HK1.out;omega
      case rel => exact ⟨(t257),(y260),(by first|rfl|(simp;done)|(simp [*];done)),H',⟨by have:=HK1.out;omega⟩,⟨by (with_reducible repeat (first|apply zm|apply zn|apply zo));exact zM HO262.out (fun _ hk => trivial)⟩,⟨by repeat (with_reducible first|exact HB.out|apply za|apply zb|apply zc|refine zd ?_ GE259.out)⟩⟩
     rw [if_neg c7] at H;exact absurd H (by simp)
    replace c6:=yb.mpr c6;subst c6;have H1 : (some ((([] : List (S33))),false))=some (r1,r2):=by rw [if_neg (show ¬ (false=true) by decide)] at H;exact H
    clear H;have H:=H1;clear H1;obtain ⟨y263,hy263⟩ : ∃ y_ : List (S33),y_=(([] : List (S33))):=⟨_,rfl⟩;replace H : (some (y263,false))=some (r1,r2):=by first|(rw [hy263];with_reducible exact H)|(have H2_:=(Option.bind_some _ _).symm.trans H;rw [hy263];with_reducible exact H2_)|(have H2_:=(Option.bind_some _ _).symm.trans H;with_reducible exact H2_)|with_reducible exact H|(rw [hy263];exact H)|exact H
    have Ny263:=zh hy263;clear hy263;simp only [Option.some.injEq,Prod.mk.injEq] at H;obtain ⟨rfl,rfl⟩:=H
    go_wp2_with (first|((with_reducible refine zJ (f:=104) rfl ?_);refine yj (some 14) rfl rfl Try.func104 (by kernel_rfl) rfl #[.string x0_1] rfl (by (try simp only [zt,zu,zv]);first|done|rfl|(simp only [zw,zx];rfl)|(simp only [yr,ys,zV,zW];rfl)) ?_;(with_reducible refine (spec_l01Next.calls k1  x0_1 t254 t255 t256 t257 false _ A5.out).mono ?_);rintro e w12 ⟨rfl,hb⟩;refine ⟨_,rfl,?_⟩;replace HO_4:=zh (yg (by (with_reducible repeat (first|apply zm|apply zn|apply zo));exact HO_4.out) hb);replace HB:=zh (zC (by repeat (with_reducible first|exact HB.out|apply za|apply zb|apply zc)) hb);(try clear hb);(try clear hb2);(try clear hk);(try clear hi))|((with_reducible refine zK (N:=5) rfl ?_);refine zI ?hg (N:=5) ?hd (cs:=#[.int .i64 0,.int .i64 0,.string (⟨#[]⟩ : ByteArray)]) (t:=33) ?hr ?_;(case hd => rfl);(case hg => rfl);(case hr => first|(go_simp;done)|(go_simp;rfl));intro gb259 hg w13 hbox hb;replace HO_4:=zh (yg (Kd.R_elderB (by (with_reducible repeat (first|apply zm|apply zn|apply zo));exact HO_4.out) gb259 (Nat.le_of_eq hg.symm)) hb);have BK259:=zh (hbox);have GW259:=zh ((by rw [hg];exact (zB (by repeat (with_reducible first|exact HB.out|apply za|apply zb|apply zc))) : w.heap.size≤gb259));have GE259:=zh ((by rw [hg];exact (zB (by repeat (with_reducible first|exact HB.out|apply za|apply zb|apply zc))) : w.heap.size≤gb259));replace HB:=zh (zC (by repeat (with_reducible first|exact HB.out|apply za|apply zb|apply zc)) hb);clear hb hbox hg;have hcz14_0 : w13.cell? ⟨gb259,0,none⟩=some (.int .i64 0):=(zz BK259.out 0).trans rfl;have hcz14_1 : w13.cell? ⟨gb259,1,none⟩=some (.int .i64 0):=(zz BK259.out 1).trans rfl;have hcz14_2 : w13.cell? ⟨gb259,2,none⟩=some (.string (⟨#[]⟩ : ByteArray)):=(zz BK259.out 2).trans rfl;have hfz14_0:=zA BK259.out 0;have hfz14_1:=zA BK259.out 1;have hfz14_2:=zA BK259.out 2)|((with_reducible refine zK (N:=20) rfl ?_);refine Kd.R_lit k33 _ 33 ?hg (N:=20) ?hd (xs:=([] : List (S33))) (inner:=[]) (ok:=fun _ => True) (okp:=fun _ => True) ?hr ?hp (fun _ hk => hk) trivial (Below.refl _ _) (ye _) (by simp) ?_;(case hd => rfl);(case hg => rfl);(case hr => first|(go_simp;done)|(go_simp;rfl));(case hp => exact (Reps.none _ _));intro v264 w15 ho16 hb hg_ hnew_;clear hg_ hnew_;(first|rw [← Ny263.out] at ho16|(simp only [Int.reduceToNat] at ho16;rw [← Ny263.out] at ho16));have HO265:=zh (yy (Kd.R_newB (Kd.R_new' ho16 (Kd.R_lt (by (with_reducible repeat (first|apply zm|apply zn|apply zo));exact (zM (zE (p:=⟨gb259,2,none⟩) (zE (p:=⟨gb259,1,none⟩) (zE (p:=⟨gb259,0,none⟩) (zM HO_4.out (fun k_ hk => (⟨hk,hk.2⟩ : _∧k_≠gb259))) (fun _ hk => hk.2) (.int .i64 t254)) (fun _ hk => hk.2) (.int .i64 t255)) (fun _ hk => hk.2) (.string t256)) (fun _ h_ => h_.1))))) (g:=gb259) (o:=.cells #[.int .i64 t254,.int .i64 t255,.string t256] 33 (0,0)) (by (with_reducible repeat (first|refine ze ?_ _|refine zf ?_|refine zg ?_ _));refine zL (cs:=#[.int .i64 t254,.int .i64 t255,.string (⟨#[]⟩ : ByteArray)]) ?_ 2 _ rfl;(with_reducible repeat (first|refine ze ?_ _|refine zf ?_|refine zg ?_ _));refine zL (cs:=#[.int .i64 t254,.int .i64 0,.string (⟨#[]⟩ : ByteArray)]) ?_ 1 _ rfl;(with_reducible repeat (first|refine ze ?_ _|refine zf ?_|refine zg ?_ _));refine zL (cs:=#[.int .i64 0,.int .i64 0,.string (⟨#[]⟩ : ByteArray)]) ?_ 0 _ rfl;(with_reducible repeat (first|refine ze ?_ _|refine zf ?_|refine zg ?_ _));exact BK259.out)) (zB (by repeat (with_reducible first|exact HB.out|apply za|apply zb|apply zc|refine zd ?_ GE259.out))));replace HO_4:=zh (Kd.R_elder' (by (with_reducible repeat (first|apply zm|apply zn|apply zo));exact (zM (zE (p:=⟨gb259,2,none⟩) (zE (p:=⟨gb259,1,none⟩) (zE (p:=⟨gb259,0,none⟩) (zM HO_4.out (fun k_ hk => (⟨hk,hk.2⟩ : _∧k_≠gb259))) (fun _ hk => hk.2) (.int .i64 t254)) (fun _ hk => hk.2) (.int .i64 t255)) (fun _ hk => hk.2) (.string t256)) (fun _ h_ => h_.1))) (Kd.R_base ho16) hb);replace BK259:=zh (zD (g:=gb259) (o:=.cells #[.int .i64 t254,.int .i64 t255,.string t256] 33 (0,0)) (by (with_reducible repeat (first|refine ze ?_ _|refine zf ?_|refine zg ?_ _));refine zL (cs:=#[.int .i64 t254,.int .i64 t255,.string (⟨#[]⟩ : ByteArray)]) ?_ 2 _ rfl;(with_reducible repeat (first|refine ze ?_ _|refine zf ?_|refine zg ?_ _));refine zL (cs:=#[.int .i64 t254,.int .i64 0,.string (⟨#[]⟩ : ByteArray)]) ?_ 1 _ rfl;(with_reducible repeat (first|refine ze ?_ _|refine zf ?_|refine zg ?_ _));refine zL (cs:=#[.int .i64 0,.int .i64 0,.string (⟨#[]⟩ : ByteArray)]) ?_ 0 _ rfl;(with_reducible repeat (first|refine ze ?_ _|refine zf ?_|refine zg ?_ _));exact BK259.out) hb);replace HB:=zh (zC (by repeat (with_reducible first|exact HB.out|apply za|apply zb|apply zc|refine zd ?_ GE259.out)) hb);clear hb ho16))
    go_ret2
    exact ⟨_,by first|rfl|(simp [yt,yu] <;> rfl)|(simp [*,yt,yu] <;> rfl),by (with_reducible repeat (first|apply zm|apply zn|apply zo));exact zM HO265.out (fun _ hk => trivial),by repeat (with_reducible first|exact HB.out|apply za|apply zb|apply zc|refine zd ?_ GE259.out)⟩
   rw [if_neg c4] at H;have c4b0 : decide (0<(x0_1.size : Int))=false:=decide_eq_false c4;have c4b1 : decide (0<x0_1.size)=false:=decide_eq_false (by omega);clear c4;simp only [Option.some.injEq,Prod.mk.injEq] at H;obtain ⟨rfl,rfl⟩:=H
   go_wp2
   go_ret2
   exact ⟨_,by first|rfl|(simp [yt,yu] <;> rfl)|(simp [*,yt,yu] <;> rfl),by (with_reducible repeat (first|apply zm|apply zn|apply zo));exact HO_4.out,by repeat (with_reducible first|exact HB.out|apply za|apply zb|apply zc)⟩

end Go.Proofs.Ytlljfjpdflcjlaa.Q
end
section
namespace Go.Proofs.Ytlljfjpdflcjlaa.Pure
open Go Go.RowKit Go.Proofs.Ytlljfjpdflcjlaa.Q Go.Proofs.YtlljfjpdflcjlaaW.PrintWords Go.Proofs.YtlljfjpdflcjlaaW.PrintLast Go.Proofs.YtlljfjpdflcjlaaW.PrintMore Go.Proofs.YtlljfjpdflcjlaaW.Pl
abbrev IFld:=S84
def itS : Nat→ByteArray→Option (List IVal)
 | 0,a => if a.size=0 then some [] else none
 | m + 1,a => if a.size=0 then some [] else match nxtV a with
  | none => none
  | some (v,r) => (itS m r).map (v :: ·)
def toldL (acc : List IVal) (o : Option (List IVal)) : List IVal×Bool:=match o with|some l => (acc ++ l,true)|none => ([],false)
def fdS : Nat→ByteArray→Option (List IFld)
 | 0,a => if a.size=0 then some [] else none
 | m + 1,a => if a.size=0 then some [] else if (a.size : Int)<1 + bt a 0 then none else match nxtV (a.extract (1 + bt a 0).toNat a.size) with
  | none => none
  | some (v,r) => (fdS m r).map ((⟨a.extract 1 (1 + bt a 0).toNat,v⟩ : IFld) :: ·)
def toldF (acc : List IFld) (o : Option (List IFld)) : List IFld×Bool:=match o with|some l => (acc ++ l,true)|none => ([],false)
def fdV (a : ByteArray) : ByteArray×Rd :=
 let q:=numV a false 1
 let t:=takV q.2.1 q.2.2 q.1.toNat
 (t.1,valV t.2.1 t.2.2)
def fdv (x : ByteArray×Rd) : IFld:=⟨x.1,rdv x.2⟩
end Go.Proofs.Ytlljfjpdflcjlaa.Pure
end
section
namespace Go.Proofs.Ytlljfjpdflcjlaa.Q
open Go.RowKit Go.Proofs.YtlljfjpdflcjlaaW.PrintWords Go.Proofs.YtlljfjpdflcjlaaW.PrintLast Go.Proofs.YtlljfjpdflcjlaaW.PrintMore
attribute [local go_sem] max2_int min2_int max_two min_two max_three min_three max_four min_four max2_str min2_str str_geq str_gtr str_leq   -- for this text's walks alone
set_option linter.unusedVariables false
set_option linter.unusedSimpArgs false

def spec_l00Letter.f (a0 : Int) : Option (Bool):=if a0 ≥ 97 then (if a0≤122 then (some true) else (if a0 ≥ 65 then (if a0≤90 then (some true) else (some (a0 == 95))) else (some (a0 == 95)))) else (if a0 ≥ 65 then (if a0≤90 then (some true) else (some (a0 == 95))) else (some (a0 == 95)))
set_option maxHeartbeats 8000000 in
set_option maxRecDepth 100000 in
theorem spec_l00Letter.calls (a0 : Int) (r : Bool) (w : World) (h : spec_l00Letter.f a0=some r) :
  Calls Try.prog 124 #[.int .u8 a0] w fun e w' => e = .returned (.bool r)∧Drawn0 w w':=by
 have H : (if a0 ≥ 97 then (if a0≤122 then (some true) else (if a0 ≥ 65 then (if a0≤90 then (some true) else (some (a0 == 95))) else (some (a0 == 95)))) else (if a0 ≥ 65 then (if a0≤90 then (some true) else (some (a0 == 95))) else (some (a0 == 95))))=some r:=h;clear h
 by_cases c2 : a0 ≥ 97
 ·
  rw [if_pos c2] at H
  have c2b0 : decide (97≤a0)=true:=decide_eq_true c2;clear c2
  by_cases c3 : a0≤122
  ·
   rw [if_pos c3] at H
   have c3b0 : decide (a0≤122)=true:=decide_eq_true c3;clear c3;obtain rfl:=zU H
   go_enter Try.func124,Try.ntmps124
   go_wp2
   go_ret
   exact ⟨by first|rfl|(simp;done)|(simp [*];done),by repeat (first|exact yp _|apply yq)⟩
  rw [if_neg c3] at H;have c3b0 : decide (a0≤122)=false:=decide_eq_false c3;clear c3
  by_cases c4 : a0 ≥ 65
  ·
   rw [if_pos c4] at H
   have c4b0 : decide (65≤a0)=true:=decide_eq_true c4;clear c4
   by_cases c5 : a0≤90
   ·
    rw [if_pos c5] at H
    have c5b0 : decide (a0≤90)=true:=decide_eq_true c5;clear c5;obtain rfl:=zU H
    go_enter Try.func124,Try.ntmps124
    go_wp2
    go_ret
    exact ⟨by first|rfl|(simp;done)|(simp [*];done),by repeat (first|exact yp _|apply yq)⟩
   rw [if_neg c5] at H;have c5b0 : decide (a0≤90)=false:=decide_eq_false c5;clear c5;obtain rfl:=zU H
   go_enter Try.func124,Try.ntmps124
   go_wp2
   go_ret
   exact ⟨by first|rfl|(simp;done)|(simp [*];done),by repeat (first|exact yp _|apply yq)⟩
  rw [if_neg c4] at H;have c4b0 : decide (65≤a0)=false:=decide_eq_false c4;clear c4;obtain rfl:=zU H
  go_enter Try.func124,Try.ntmps124
  go_wp2
  go_ret
  exact ⟨by first|rfl|(simp;done)|(simp [*];done),by repeat (first|exact yp _|apply yq)⟩
 rw [if_neg c2] at H;have c2b0 : decide (97≤a0)=false:=decide_eq_false c2;clear c2
 by_cases c6 : a0 ≥ 65
 ·
  rw [if_pos c6] at H
  have c6b0 : decide (65≤a0)=true:=decide_eq_true c6;clear c6
  by_cases c7 : a0≤90
  ·
   rw [if_pos c7] at H
   have c7b0 : decide (a0≤90)=true:=decide_eq_true c7;clear c7;obtain rfl:=zU H
   go_enter Try.func124,Try.ntmps124
   go_wp2
   go_ret
   exact ⟨by first|rfl|(simp;done)|(simp [*];done),by repeat (first|exact yp _|apply yq)⟩
  rw [if_neg c7] at H;have c7b0 : decide (a0≤90)=false:=decide_eq_false c7;clear c7;obtain rfl:=zU H
  go_enter Try.func124,Try.ntmps124
  go_wp2
  go_ret
  exact ⟨by first|rfl|(simp;done)|(simp [*];done),by repeat (first|exact yp _|apply yq)⟩
 rw [if_neg c6] at H;have c6b0 : decide (65≤a0)=false:=decide_eq_false c6;clear c6;obtain rfl:=zU H
 go_enter Try.func124,Try.ntmps124
 go_wp2
 go_ret
 exact ⟨by first|rfl|(simp;done)|(simp [*];done),by repeat (first|exact yp _|apply yq)⟩

end Go.Proofs.Ytlljfjpdflcjlaa.Q
end
section
namespace Go.Proofs.Ytlljfjpdflcjlaa.Q
open Go.RowKit Go.Proofs.YtlljfjpdflcjlaaW.PrintWords Go.Proofs.YtlljfjpdflcjlaaW.PrintLast Go.Proofs.YtlljfjpdflcjlaaW.PrintMore
attribute [local go_sem] max2_int min2_int max_two min_two max_three min_three max_four min_four max2_str min2_str str_geq str_gtr str_leq   -- for this text's walks alone
set_option linter.unusedVariables false
set_option linter.unusedSimpArgs false

def spec_l00Digit.f (a0 : Int) : Option (Bool):=if a0 ≥ 48 then (some (decide (a0≤57))) else (some false)
set_option maxHeartbeats 8000000 in
set_option maxRecDepth 100000 in
theorem spec_l00Digit.calls (a0 : Int) (r : Bool) (w : World) (h : spec_l00Digit.f a0=some r) :
  Calls Try.prog 125 #[.int .u8 a0] w fun e w' => e = .returned (.bool r)∧Drawn0 w w':=by
 have H : (if a0 ≥ 48 then (some (decide (a0≤57))) else (some false))=some r:=h;clear h
 by_cases c2 : a0 ≥ 48
 ·
  rw [if_pos c2] at H
  have c2b0 : decide (48≤a0)=true:=decide_eq_true c2;clear c2;obtain rfl:=zU H
  go_enter Try.func125,Try.ntmps125
  go_wp2
  go_ret
  exact ⟨by first|rfl|(simp;done)|(simp [*];done),by repeat (first|exact yp _|apply yq)⟩
 rw [if_neg c2] at H;have c2b0 : decide (48≤a0)=false:=decide_eq_false c2;clear c2;obtain rfl:=zU H
 go_enter Try.func125,Try.ntmps125
 go_wp2
 go_ret
 exact ⟨by first|rfl|(simp;done)|(simp [*];done),by repeat (first|exact yp _|apply yq)⟩

end Go.Proofs.Ytlljfjpdflcjlaa.Q
end
section
namespace Go.Proofs.Ytlljfjpdflcjlaa.Q
open Go.RowKit Go.Proofs.YtlljfjpdflcjlaaW.PrintWords Go.Proofs.YtlljfjpdflcjlaaW.PrintLast Go.Proofs.YtlljfjpdflcjlaaW.PrintMore
attribute [local go_sem] max2_int min2_int max_two min_two max_three min_three max_four min_four max2_str min2_str str_geq str_gtr str_leq   -- for this text's walks alone
set_option linter.unusedVariables false
set_option linter.unusedSimpArgs false

mutual
def spec_l00Word.j0 : Nat→ByteArray→Bool→Option (Bool)
 | 0,_,_ => none
 | k + 1,x0,x17 => if x17=true then (some false) else (spec_l00Word.l0 k x0 1)
def spec_l00Word.l0 : Nat→ByteArray→Int→Option (Bool)
 | 0,_,_ => none
 | k + 1,x0,x3 => if x3<(x0.size : Int) then (if 0≤x3 then ((spec_l00Letter.f (bt x0 x3)).bind fun t225 => (if t225=true then (spec_l00Word.l0 k x0 (wrap64 (x3 + 1))) else ((spec_l00Digit.f (bt x0 x3)).bind fun t226 => (if t226=true then (spec_l00Word.l0 k x0 (wrap64 (x3 + 1))) else (some false))))) else (none)) else (some true)
end
def spec_l00Word.f (k : Nat) (a0 : ByteArray) : Option (Bool):=if (a0.size : Int)<1 then (spec_l00Word.j0 k a0 true) else (if (a0.size : Int) > 40 then (spec_l00Word.j0 k a0 true) else (if 0<(a0.size : Int) then ((spec_l00Letter.f (bt a0 0)).bind fun t224 => (spec_l00Word.j0 k a0 (!t224))) else (none)))
theorem spec_l00Word.mono_l : ∀ k,(∀ y0 y1,LeO (spec_l00Word.j0 k y0 y1) (spec_l00Word.j0 (k + 1) y0 y1))∧(∀ y0 y1,LeO (spec_l00Word.l0 k y0 y1) (spec_l00Word.l0 (k + 1) y0 y1))
 | 0 => ⟨fun _ _ r h => by simp [spec_l00Word.j0] at h,fun _ _ r h => by simp [spec_l00Word.l0] at h⟩
 | k + 1 => by
  obtain ⟨ih0,ih1⟩:=spec_l00Word.mono_l k;refine ⟨?_,?_⟩
  ·
   intro y0 y1
   unfold spec_l00Word.j0
   repeat' first|(with_reducible exact ih0 _ _)|(with_reducible exact ih1 _ _)|(with_reducible exact zQ _)|(with_reducible exact zN _)|(with_reducible refine zP ?_ ?_)|(with_reducible refine zO ?_ (fun _ => ?_))|refine zP ?_ ?_|refine zO ?_ (fun _ => ?_)
  intro y0 y1;unfold spec_l00Word.l0
  repeat' first|(with_reducible exact ih0 _ _)|(with_reducible exact ih1 _ _)|(with_reducible exact zQ _)|(with_reducible exact zN _)|(with_reducible refine zP ?_ ?_)|(with_reducible refine zO ?_ (fun _ => ?_))|refine zP ?_ ?_|refine zO ?_ (fun _ => ?_)
theorem spec_l00Word.mono : ∀ a0 k,LeO (spec_l00Word.f k a0) (spec_l00Word.f (k + 1) a0):=by
 intro a0 k;obtain ⟨ih0,ih1⟩:=spec_l00Word.mono_l k;unfold spec_l00Word.f
 repeat' first|(with_reducible exact ih0 _ _)|(with_reducible exact ih1 _ _)|(with_reducible exact zQ _)|(with_reducible exact zN _)|(with_reducible refine zP ?_ ?_)|(with_reducible refine zO ?_ (fun _ => ?_))|refine zP ?_ ?_|refine zO ?_ (fun _ => ?_)
set_option maxHeartbeats 8000000 in
set_option maxRecDepth 100000 in
theorem spec_l00Word.calls (k : Nat) (a0 : ByteArray) (r : Bool) (w : World) (h : spec_l00Word.f k a0=some r) :
  Calls Try.prog 103 #[.string a0] w fun e w' => e = .returned (.bool r)∧Drawn0 w w':=by
 have H : (if (a0.size : Int)<1 then (spec_l00Word.j0 k a0 true) else (if (a0.size : Int) > 40 then (spec_l00Word.j0 k a0 true) else (if 0<(a0.size : Int) then ((spec_l00Letter.f (bt a0 0)).bind fun t224 => (spec_l00Word.j0 k a0 (!t224))) else (none))))=some r:=h;clear h;have HC2:=zh H;clear H
 go_enter Try.func103,Try.ntmps103
 go_upto_region 1 with (fail)
 go_cut [17] (fun v17 wc => ∃ (kq : Nat) (x17_1 : Bool),v17 = .bool x17_1∧Aside0 (spec_l00Word.j0 kq a0 x17_1=some r)∧Aside0 (kq≤k)∧Drawn0 w wc)
 case first =>
  have H:=HC2.out;clear HC2
  by_cases c3 : (a0.size : Int)<1
  ·
   rw [if_pos c3] at H
   have c3b0 : decide ((a0.size : Int)<1)=true:=decide_eq_true c3;have c3b1 : decide (a0.size<1)=true:=decide_eq_true (by omega);clear c3;(first|rw [c3b0]|(simp only [zG,zH];rw [c3b0])|skip);have H':=zh H;clear H
   go_wp2
   go_meet
   case rel => exact ⟨_,(true),(by first|rfl|(simp;done)|(simp [*];done)),H',⟨by first|omega|exact ye _⟩,by repeat (first|exact yp _|apply yq)⟩
  rw [if_neg c3] at H;have c3b0 : decide ((a0.size : Int)<1)=false:=decide_eq_false c3;have c3b1 : decide (a0.size<1)=false:=decide_eq_false (by omega);clear c3;(first|rw [c3b0]|(simp only [zG,zH];rw [c3b0])|skip)
  by_cases c4 : (a0.size : Int) > 40
  ·
   rw [if_pos c4] at H
   have c4b0 : decide (40<(a0.size : Int))=true:=decide_eq_true c4;have c4b1 : decide (40<a0.size)=true:=decide_eq_true (by omega);clear c4;have H':=zh H;clear H
   go_wp2
   go_meet
   case rel => exact ⟨_,(true),(by first|rfl|(simp;done)|(simp [*];done)),H',⟨by first|omega|exact ye _⟩,by repeat (first|exact yp _|apply yq)⟩
  rw [if_neg c4] at H;have c4b0 : decide (40<(a0.size : Int))=false:=decide_eq_false c4;have c4b1 : decide (40<a0.size)=false:=decide_eq_false (by omega);clear c4
  by_cases c5 : 0<(a0.size : Int)
  ·
   rw [if_pos c5] at H
   have c5b0 : decide (0<(a0.size : Int))=true:=decide_eq_true c5;have c5b1 : decide (0<a0.size)=true:=decide_eq_true (by omega);clear c5;replace H:=zT.mp H;obtain ⟨t224,A70,H⟩:=H;replace H : (spec_l00Word.j0 k a0 (!t224))=some r:=H;have A7:=zh A70;clear A70;have H':=zh H;clear H;have p6 : 0≤(0 : Int):=(by omega);have q6 : 0<a0.size:=(by have : (0 : Int)<(a0.size : Int):=zy (by first|(with_reducible assumption)|assumption);omega);have hx6 : ∀ h : 0<a0.size,((a0[0]'h).toNat : Int)=bt a0 0:=bt_at a0 0;clear p6;have qi6 : (0<(a0.size : Int))=True:=eq_true (zy (by first|(with_reducible assumption)|assumption));replace q6:=eq_true q6
   go_wp2_with (first|(go_at_call 124;(with_reducible refine (spec_l00Letter.calls  (bt a0 0) t224 _ A7.out).mono ?_);rintro e w' ⟨rfl,⟨nd,rfl⟩⟩))
   go_meet
   case rel => exact ⟨_,(!t224),(by first|rfl|(simp;done)|(simp [*];done)),H',⟨by first|omega|exact ye _⟩,by repeat (first|exact yp _|apply yq)⟩
  rw [if_neg c5] at H;exact absurd H (by simp)
 case rest =>
  clear HC2
  try clear c1
  try clear p2
  try clear c3
  try clear c3b0
  try clear c3b1
  try clear c4
  try clear c4b0
  try clear c4b1
  try clear c5
  try clear c5b0
  try clear c5b1
  try clear p6
  try clear q6
  try clear hx6
  try clear qi6
  try clear p6
  try clear q6
  obtain ⟨kq,x17_1,rfl,HA,HJ1,⟨mc1,rfl⟩⟩:=hcut
  cases kq with
  | zero => exact absurd HA.out (by simp [spec_l00Word.j0])
  | succ kj1 =>
   have H:=HA.out;clear HA;simp only [spec_l00Word.j0] at H
   by_cases c8 : x17_1=true
   ·
    subst c8
    have H1 : (some false)=some r:=by rw [if_pos rfl] at H;exact H
    clear H;have H:=H1;clear H1;obtain rfl:=zU H
    go_wp2
    go_ret
    exact ⟨by first|rfl|(simp;done)|(simp [*];done),by repeat (first|exact yp _|apply yq)⟩
   replace c8:=yb.mpr c8;subst c8;have H1 : (spec_l00Word.l0 kj1 a0 1)=some r:=by rw [if_neg (show ¬ (false=true) by decide)] at H;exact H
   clear H;have H:=H1;clear H1;have H':=zh H;clear H
   go_wp2
   go_loopg [3] kj1 (fun kq v3 w' => ∃ (x3_2 : Int),v3 = .int .i64 x3_2∧Aside0 (spec_l00Word.l0 kq a0 x3_2=some r)∧Aside0 (kq≤kj1)∧Drawn0 w w')
   case atStart => exact ⟨(1),(by first|rfl|(simp;done)|(simp [*];done)),H',⟨ye _⟩,by repeat (first|exact yp _|apply yq)⟩
   case round =>
    clear H'
    try clear c1
    try clear p2
    try clear c3
    try clear c3b0
    try clear c3b1
    try clear c4
    try clear c4b0
    try clear c4b1
    try clear c5
    try clear c5b0
    try clear c5b1
    try clear p6
    try clear q6
    try clear hx6
    try clear qi6
    try clear c8
    try clear p2
    try clear p6
    try clear q6
    obtain ⟨x3_2,rfl,HA,HK2,⟨m2,rfl⟩⟩:=hrel
    cases gk with
    | zero => exact absurd HA.out (by simp [spec_l00Word.l0])
    | succ k2 =>
     have H:=HA.out;clear HA;simp only [spec_l00Word.l0] at H
     by_cases c9 : x3_2<(a0.size : Int)
     ·
      rw [if_pos c9] at H
      have c9b0 : decide (x3_2<(a0.size : Int))=true:=decide_eq_true c9;clear c9
      by_cases c10 : 0≤x3_2
      ·
       rw [if_pos c10] at H
       have c10b0 : decide (0≤x3_2)=true:=decide_eq_true c10;clear c10;replace H:=zT.mp H;obtain ⟨t225,A120,H⟩:=H;replace H : (if t225=true then (spec_l00Word.l0 k2 a0 (wrap64 (x3_2 + 1))) else ((spec_l00Digit.f (bt a0 x3_2)).bind fun t226 => (if t226=true then (spec_l00Word.l0 k2 a0 (wrap64 (x3_2 + 1))) else (some false))))=some r:=H;have A12:=zh A120;clear A120
       by_cases c13 : t225=true
       ·
        subst c13
        have H1 : (spec_l00Word.l0 k2 a0 (wrap64 (x3_2 + 1)))=some r:=by rw [if_pos rfl] at H;exact H
        clear H;have H:=H1;clear H1;have H':=zh H;clear H;have p11 : 0≤(x3_2 : Int):=zy (by first|(with_reducible assumption)|assumption);have q11 : x3_2<(a0.size : Int):=zy (by first|(with_reducible assumption)|assumption);have hx11:=bt_at a0 x3_2;replace p11:=eq_true p11;replace q11:=eq_true q11
        go_wp2_with (first|((with_reducible refine zJ (f:=124) rfl ?_);refine yj (some 27) rfl rfl Try.func124 (by kernel_rfl) rfl #[.int .u8 (bt a0 x3_2)] rfl (by (try simp only [zt,zu,zv]);first|done|rfl|(simp only [zw,zx];rfl)|(simp only [yr,ys,zV,zW];rfl)) ?_;(with_reducible refine (spec_l00Letter.calls  (bt a0 x3_2) true _ A12.out).mono ?_);rintro e w' ⟨rfl,⟨nd,rfl⟩⟩;refine ⟨_,rfl,?_⟩))
        go_roundg k2
        case measure => have:=HJ1.out;have:=HK2.out;omega
        case rel => exact ⟨(wrap64 (x3_2 + 1)),(by first|rfl|(simp;done)|(simp [*];done)),H',⟨by have:=HJ1.out;have:=HK2.out;omega⟩,by repeat (first|exact yp _|apply yq)⟩
       replace c13:=yb.mpr c13;subst c13;have H1 : ((spec_l00Digit.f (bt a0 x3_2)).bind fun t226 => (if t226=true then (spec_l00Word.l0 k2 a0 (wrap64 (x3_2 + 1))) else (some false)))=some r:=by rw [if_neg (show ¬ (false=true) by decide)] at H;exact H
       clear H;have H:=H1;clear H1;replace H:=zT.mp H;obtain ⟨t226,A150,H⟩:=H;replace H : (if t226=true then (spec_l00Word.l0 k2 a0 (wrap64 (x3_2 + 1))) else (some false))=some r:=H;have A15:=zh A150;clear A150
       by_cases c16 : t226=true
       ·
        subst c16
        have H1 : (spec_l00Word.l0 k2 a0 (wrap64 (x3_2 + 1)))=some r:=by rw [if_pos rfl] at H;exact H
        clear H;have H:=H1;clear H1;have H':=zh H;clear H;have p11 : 0≤(x3_2 : Int):=zy (by first|(with_reducible assumption)|assumption);have q11 : x3_2<(a0.size : Int):=zy (by first|(with_reducible assumption)|assumption);have hx11:=bt_at a0 x3_2;replace p11:=eq_true p11;replace q11:=eq_true q11
        go_wp2_with (first|((with_reducible refine zJ (f:=124) rfl ?_);refine yj (some 27) rfl rfl Try.func124 (by kernel_rfl) rfl #[.int .u8 (bt a0 x3_2)] rfl (by (try simp only [zt,zu,zv]);first|done|rfl|(simp only [zw,zx];rfl)|(simp only [yr,ys,zV,zW];rfl)) ?_;(with_reducible refine (spec_l00Letter.calls  (bt a0 x3_2) false _ A12.out).mono ?_);rintro e w' ⟨rfl,⟨nd,rfl⟩⟩;refine ⟨_,rfl,?_⟩;have p14 : 0≤(x3_2 : Int):=zy (by first|(with_reducible assumption)|assumption);have q14 : x3_2<(a0.size : Int):=zy (by first|(with_reducible assumption)|assumption);have hx14:=bt_at a0 x3_2;replace p14:=eq_true p14;replace q14:=eq_true q14)|(go_at_call 125;(with_reducible refine (spec_l00Digit.calls  (bt a0 x3_2) true _ A15.out).mono ?_);rintro e w' ⟨rfl,⟨nd,rfl⟩⟩))
        go_roundg k2
        case measure => have:=HJ1.out;have:=HK2.out;omega
        case rel => exact ⟨(wrap64 (x3_2 + 1)),(by first|rfl|(simp;done)|(simp [*];done)),H',⟨by have:=HJ1.out;have:=HK2.out;omega⟩,by repeat (first|exact yp _|apply yq)⟩
       replace c16:=yb.mpr c16;subst c16;have H1 : (some false)=some r:=by rw [if_neg (show ¬ (false=true) by decide)] at H;exact H
       clear H;have H:=H1;clear H1;obtain rfl:=zU H;have p11 : 0≤(x3_2 : Int):=zy (by first|(with_reducible assumption)|assumption);have q11 : x3_2<(a0.size : Int):=zy (by first|(with_reducible assumption)|assumption);have hx11:=bt_at a0 x3_2;replace p11:=eq_true p11;replace q11:=eq_true q11
       go_wp2_with (first|((with_reducible refine zJ (f:=124) rfl ?_);refine yj (some 27) rfl rfl Try.func124 (by kernel_rfl) rfl #[.int .u8 (bt a0 x3_2)] rfl (by (try simp only [zt,zu,zv]);first|done|rfl|(simp only [zw,zx];rfl)|(simp only [yr,ys,zV,zW];rfl)) ?_;(with_reducible refine (spec_l00Letter.calls  (bt a0 x3_2) false _ A12.out).mono ?_);rintro e w' ⟨rfl,⟨nd,rfl⟩⟩;refine ⟨_,rfl,?_⟩;have p14 : 0≤(x3_2 : Int):=zy (by first|(with_reducible assumption)|assumption);have q14 : x3_2<(a0.size : Int):=zy (by first|(with_reducible assumption)|assumption);have hx14:=bt_at a0 x3_2;replace p14:=eq_true p14;replace q14:=eq_true q14)|(go_at_call 125;(with_reducible refine (spec_l00Digit.calls  (bt a0 x3_2) false _ A15.out).mono ?_);rintro e w' ⟨rfl,⟨nd,rfl⟩⟩))
       go_ret
       exact ⟨by first|rfl|(simp;done)|(simp [*];done),by repeat (first|exact yp _|apply yq)⟩
      rw [if_neg c10] at H;exact absurd H (by simp)
     rw [if_neg c9] at H;have c9b0 : decide (x3_2<(a0.size : Int))=false:=decide_eq_false c9;clear c9;obtain rfl:=zU H
     go_wp2
     go_ret
     exact ⟨by first|rfl|(simp;done)|(simp [*];done),by repeat (first|exact yp _|apply yq)⟩

end Go.Proofs.Ytlljfjpdflcjlaa.Q
end
section
namespace Go.Proofs.Ytlljfjpdflcjlaa.Q
open Go.RowKit Go.Proofs.YtlljfjpdflcjlaaW.PrintWords Go.Proofs.YtlljfjpdflcjlaaW.PrintLast Go.Proofs.YtlljfjpdflcjlaaW.PrintMore
attribute [local go_sem] max2_int min2_int max_two min_two max_three min_three max_four min_four max2_str min2_str str_geq str_gtr str_leq   -- for this text's walks alone
set_option linter.unusedVariables false
set_option linter.unusedSimpArgs false

def spec_NameOK.f (k : Nat) (a0 : ByteArray) : Option (Bool):=(spec_l00Word.f k a0).bind fun t227 => (some t227)
theorem spec_NameOK.mono : ∀ a0 k,LeO (spec_NameOK.f k a0) (spec_NameOK.f (k + 1) a0):=by
 intro a0 k;unfold spec_NameOK.f
 repeat' first|(with_reducible exact spec_l00Word.mono _ _)|(with_reducible exact zQ _)|(with_reducible exact zN _)|(with_reducible refine zP ?_ ?_)|(with_reducible refine zO ?_ (fun _ => ?_))|refine zP ?_ ?_|refine zO ?_ (fun _ => ?_)
set_option maxHeartbeats 8000000 in
set_option maxRecDepth 100000 in
theorem spec_NameOK.calls (k : Nat) (a0 : ByteArray) (r : Bool) (w : World) (h : spec_NameOK.f k a0=some r) :
  Calls Try.prog 66 #[.string a0] w fun e w' => e = .returned (.bool r)∧Drawn0 w w':=by
 have H : ((spec_l00Word.f k a0).bind fun t227 => (some t227))=some r:=h;clear h;replace H:=zT.mp H;obtain ⟨t227,A20,H⟩:=H;replace H : (some t227)=some r:=H;have A2:=zh A20;clear A20;obtain rfl:=zU H
 go_enter Try.func66,Try.ntmps66
 go_wp2_with (first|((with_reducible refine zJ (f:=103) rfl ?_);refine yj (some 4) rfl rfl Try.func103 (by kernel_rfl) rfl #[.string a0] rfl (by (try simp only [zt,zu,zv]);first|done|rfl|(simp only [zw,zx];rfl)|(simp only [yr,ys,zV,zW];rfl)) ?_;(with_reducible refine (spec_l00Word.calls k  a0 t227 _ A2.out).mono ?_);rintro e w' ⟨rfl,⟨nd,rfl⟩⟩;refine ⟨_,rfl,?_⟩))
 go_ret
 exact ⟨by first|rfl|(simp;done)|(simp [*];done),by repeat (first|exact yp _|apply yq)⟩

end Go.Proofs.Ytlljfjpdflcjlaa.Q
end
section
namespace Go.Proofs.Ytlljfjpdflcjlaa.Q
open Go.RowKit Go.Proofs.YtlljfjpdflcjlaaW.PrintWords Go.Proofs.YtlljfjpdflcjlaaW.PrintLast Go.Proofs.YtlljfjpdflcjlaaW.PrintMore
attribute [local go_sem] max2_int min2_int max_two min_two max_three min_three max_four min_four max2_str min2_str str_geq str_gtr str_leq   -- for this text's walks alone
set_option linter.unusedVariables false
set_option linter.unusedSimpArgs false

def spec_l01Name.f (k : Nat) (a0 : ByteArray) : Option (Bool):=(spec_NameOK.f k a0).bind fun t228 => (if t228=true then (some (decide ((a0.size : Int)≤12))) else (some false))
theorem spec_l01Name.mono : ∀ a0 k,LeO (spec_l01Name.f k a0) (spec_l01Name.f (k + 1) a0):=by
 intro a0 k;unfold spec_l01Name.f
 repeat' first|(with_reducible exact spec_NameOK.mono _ _)|(with_reducible exact zQ _)|(with_reducible exact zN _)|(with_reducible refine zP ?_ ?_)|(with_reducible refine zO ?_ (fun _ => ?_))|refine zP ?_ ?_|refine zO ?_ (fun _ => ?_)
set_option maxHeartbeats 8000000 in
set_option maxRecDepth 100000 in
theorem spec_l01Name.calls (k : Nat) (a0 : ByteArray) (r : Bool) (w : World) (h : spec_l01Name.f k a0=some r) :
  Calls Try.prog 41 #[.string a0] w fun e w' => e = .returned (.bool r)∧Drawn0 w w':=by
 have H : ((spec_NameOK.f k a0).bind fun t228 => (if t228=true then (some (decide ((a0.size : Int)≤12))) else (some false)))=some r:=h;clear h;replace H:=zT.mp H;obtain ⟨t228,A20,H⟩:=H;replace H : (if t228=true then (some (decide ((a0.size : Int)≤12))) else (some false))=some r:=H;have A2:=zh A20;clear A20
 by_cases c3 : t228=true
 ·
  subst c3
  have H1 : (some (decide ((a0.size : Int)≤12)))=some r:=by rw [if_pos rfl] at H;exact H
  clear H;have H:=H1;clear H1;obtain rfl:=zU H
  go_enter Try.func41,Try.ntmps41
  go_wp2_with (first|((with_reducible refine zJ (f:=66) rfl ?_);refine yj (some 4) rfl rfl Try.func66 (by kernel_rfl) rfl #[.string a0] rfl (by (try simp only [zt,zu,zv]);first|done|rfl|(simp only [zw,zx];rfl)|(simp only [yr,ys,zV,zW];rfl)) ?_;(with_reducible refine (spec_NameOK.calls k  a0 true _ A2.out).mono ?_);rintro e w' ⟨rfl,⟨nd,rfl⟩⟩;refine ⟨_,rfl,?_⟩))
  go_ret
  exact ⟨by first|rfl|(simp;done)|(simp [*];done),by repeat (first|exact yp _|apply yq)⟩
 replace c3:=yb.mpr c3;subst c3;have H1 : (some false)=some r:=by rw [if_neg (show ¬ (false=true) by decide)] at H;exact H
 clear H;have H:=H1;clear H1;obtain rfl:=zU H
 go_enter Try.func41,Try.ntmps41
 go_wp2_with (first|((with_reducible refine zJ (f:=66) rfl ?_);refine yj (some 4) rfl rfl Try.func66 (by kernel_rfl) rfl #[.string a0] rfl (by (try simp only [zt,zu,zv]);first|done|rfl|(simp only [zw,zx];rfl)|(simp only [yr,ys,zV,zW];rfl)) ?_;(with_reducible refine (spec_NameOK.calls k  a0 false _ A2.out).mono ?_);rintro e w' ⟨rfl,⟨nd,rfl⟩⟩;refine ⟨_,rfl,?_⟩))
 go_ret
 exact ⟨by first|rfl|(simp;done)|(simp [*];done),by repeat (first|exact yp _|apply yq)⟩

end Go.Proofs.Ytlljfjpdflcjlaa.Q
end
