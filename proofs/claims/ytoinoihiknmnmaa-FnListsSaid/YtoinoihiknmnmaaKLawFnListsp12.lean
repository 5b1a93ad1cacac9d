/- Texts of this claim, merged by a program of this session. -/
import Derived.Test.YtoinoihiknmnmaaKLawFnListsp11
import Derived.Shelf.Strings.Builder1
import Derived.Shelf.Strings.Builder2
import Derived.Shelf.Strings.BuilderF
import Derived.Shelf.Strings.Prefix
import Derived.Shelf.Bits.Mul64
import Derived.Shelf.Strings.Repeat
import Derived.Test.YtoinoihiknmnmaaProg
import Derived.Laws.CopyRow
import Derived.Lib.AppendZerosOnto
import Derived.Lib.Overlaps
import Derived.Lib.JoinLaws
import Derived.Laws.Externs
import Derived.Laws.Tables
import Derived.Shelf.RegionOpenPlain
section
namespace Go.Proofs.YtoinoihiknmnmaaW.PrintMore
open Go Go.RowKit
def mxs (x y : ByteArray) : ByteArray:=if Op.bytesLess x.toList y.toList then y else x
def mns (x y : ByteArray) : ByteArray:=if (Op.bytesLess x.toList y.toList || x.toList == y.toList) then x else y
theorem max2_str (x y : ByteArray) : Builtin.max2 (.string x) (.string y)=pure (.string (mxs x y)):=by
 simp only [Builtin.max2,Op.stringOp,mxs]
 cases h : Op.bytesLess x.toList y.toList <;> simp [asBool]
theorem min2_str (x y : ByteArray) : Builtin.min2 (.string x) (.string y)=pure (.string (mns x y)):=by
 simp only [Builtin.min2,Op.stringOp,mns]
 cases h : (Op.bytesLess x.toList y.toList || x.toList == y.toList) <;> simp [asBool]
theorem bytesLess_total : ∀ x y : List UInt8,(!(Op.bytesLess x y || x == y))=Op.bytesLess y x
 | [],[]=>rfl
 | [],_ :: _=>rfl
 | _ :: _,[]=>rfl
 | a :: x,b :: y=>by
  have ih:=bytesLess_total x y;simp only [Op.bytesLess]
  by_cases h : a=b
  ·
   subst h
   have h1 : (a<a)=False:=eq_false (UInt8.lt_irrefl a);simp only [h1,decide_false,Bool.false_or,beq_self_eq_true,Bool.true_and];rw [← ih]
   by_cases h2 : x=y <;> simp [h2]
  have h1 : (a == b)=false:=by simpa using h
  have h2 : (b == a)=false:=by simpa using fun e=>h e.symm
  have h3 : (a :: x == b :: y)=false:=by simp [h]
  simp only [h1,h2,h3,Bool.false_and,Bool.or_false];have h4 : a.toNat≠b.toNat:=fun e=>h (UInt8.toNat_inj.mp e)
  by_cases h5 : a<b
  ·
   have : ¬ b<a:=by rw [UInt8.lt_iff_toNat_lt] at *;omega
   simp [h5,this]
  have : b<a:=by rw [UInt8.lt_iff_toNat_lt] at *;omega
  simp [h5,this]
theorem str_geq (t : TypeId) (a b : ByteArray) : binOp .geq t (.string a) (.string b)=pure (.bool !(Op.bytesLess a.toList b.toList)):=by simp [binOp,Op.stringOp]
theorem str_gtr (t : TypeId) (a b : ByteArray) : binOp .gtr t (.string a) (.string b)=pure (.bool (Op.bytesLess b.toList a.toList)):=by
 rw [← bytesLess_total];simp [binOp,Op.stringOp]
theorem str_leq (t : TypeId) (a b : ByteArray) : binOp .leq t (.string a) (.string b)=pure (.bool !(Op.bytesLess b.toList a.toList)):=by
 rw [← bytesLess_total];simp [binOp,Op.stringOp]
open Go.Proofs.YtoinoihiknmnmaaW.PrintWords Go.Proofs.YtoinoihiknmnmaaW.PrintLast
theorem conv_V {base : Nat} (W : World) (e : TypeId) (s : ByteArray) (hs : s.size≤9223372036854775807) :
  Kd.V (Kd.int .u8) e (Lib.bytesWorld W e s) base (fun k=>W.heap.size≤k) (.slice (some ⟨W.heap.size,0,none⟩) s.size (grownCap W s.size 0 e)) (bytesOf s):=by
 have hl : (bytesOf s).length=s.size:=bytesOf_length s;refine ⟨some ⟨W.heap.size,0,none⟩,grownCap W s.size 0 e,by rw [hl],by rw [hl];exact grownCap_ge W s.size 0 e,fun W2 h2=>?_⟩;have hr:=bytes_reads W e s hs;have hat : W2.heap[W.heap.size]? = (Lib.bytesWorld W e s).heap[W.heap.size]?:=h2 _ (Nat.le_refl _) (by rw [Lib.bytesWorld_size];omega);refine ⟨rfl,by rw [hl];exact hs,fun hn=>⟨_,rfl,fun j p hj=>⟨[.int .u8 p],rfl,rfl,fun i u hu=>?_⟩⟩⟩;obtain ⟨hjl,hp⟩:=List.getElem?_eq_some_iff.1 hj
 have hi : i=0:=by
  have:=(List.getElem?_eq_some_iff.1 hu).1;simp at this;exact this
 subst hi;obtain rfl : Value.int .u8 p=u:=by simpa using hu
 obtain ⟨ad,hade,hcell⟩:=hr.2.2 (by omega);obtain rfl:=Option.some.inj hade;have h3:=hcell j (by omega);have h4 : (bytesOf s).getD j 0=p:=by rw [List.getD_eq_getElem?_getD,hj];rfl
 rw [h4,add_plain] at h3;show W2.cell? (Addr.add ⟨W.heap.size,0,none⟩ (j*1+0))=_;rw [add_plain,Nat.mul_one,Nat.add_zero];unfold World.cell? at h3 ⊢;rw [hat];exact h3
section
variable {P : Program} {ops : Array Oper} {o : Oper} {rest : List Oper} {a : Act} {Q : Exit→Act→World→Prop}
theorem conv_event {W : World} {base : Nat} (hgd : o.guard=none) {N : Tmp} (_hd : o.dst=some N) (src dst e : TypeId) {x : Operand} (s : ByteArray) (ho : o.op = .convert src dst x) (hx : a.eval x = .string s)
  {u : TypeDesc} (hs : P.underlying src=some u) (hdst : P.underlying dst=some (.slice e)) (he : P.underlying e=some (.int .u8)) (hsz : s.size≤9223372036854775807)
  (h : ∀ v w1,Kd.V (Kd.int .u8) e w1 base (fun k=>W.heap.size≤k) v (bytesOf s)→Below W.heap.size W w1→wpList P ops Q rest (a.put o.dst v) w1) : wpList P ops Q (o :: rest) a W:=by
 refine Kd.event_run hgd ?_ (h _ _ (conv_V W e s hsz) (bytes_below (Below.refl _ _) (Nat.le_refl _) e s));unfold execOp;rw [ho];simp [hx,print_bytes src dst e hs hdst he s W]
end
end Go.Proofs.YtoinoihiknmnmaaW.PrintMore
end
section
namespace Go.Proofs
open Go.Shelf
def Try.lays105_ren : Go.Shelf.Ren:=⟨fun|105=>79|212=>86|99=>87|165=>88|166=>89|170=>90|169=>91|263=>94|264=>95|206=>96|240=>97|241=>98|276=>99|277=>100|n=>n,fun|9=>9|3=>3|4=>4|20=>20|0=>0|46=>95|109=>106|5=>5|72=>111|76=>115|51=>120|146=>121|53=>123|148=>124|70=>109|37=>33|75=>114|127=>126|164=>127|80=>117|n=>n,fun|n=>n⟩
theorem Try.lays105 : Go.Proofs.Lays.n105 Try.prog Try.lays105_ren:={
 mixed:=by kernel_rfl
 f99:=Try.func87.trans (congrArg some (by kernel_rfl))
 f105:=Try.func79.trans (congrArg some (by kernel_rfl))
 f165:=Try.func88.trans (congrArg some (by kernel_rfl))
 f166:=Try.func89.trans (congrArg some (by kernel_rfl))
 f169:=Try.func91.trans (congrArg some (by kernel_rfl))
 f170:=Try.func90.trans (congrArg some (by kernel_rfl))
 f206:=Try.func96.trans (congrArg some (by kernel_rfl))
 f212:=Try.func86.trans (congrArg some (by kernel_rfl))
 f240:=Try.func97.trans (congrArg some (by kernel_rfl))
 f241:=Try.func98.trans (congrArg some (by kernel_rfl))
 f263:=Try.func94.trans (congrArg some (by kernel_rfl))
 f264:=Try.func95.trans (congrArg some (by kernel_rfl))
 f276:=Try.func99.trans (congrArg some (by kernel_rfl))
 f277:=Try.func100.trans (congrArg some (by kernel_rfl))
 t0:=Try.underlying0
 a0:=Try.isAgg0
 z0:=Try.sizeOf0
 v0:=Try.zeroValue0
 t3:=Try.underlying3
 a3:=Try.isAgg3
 z3:=Try.sizeOf3
 v3:=Try.zeroValue3
 t4:=Try.underlying4
 a4:=Try.isAgg4
 z4:=Try.sizeOf4
 v4:=Try.zeroValue4
 t5:=Try.underlying5
 a5:=Try.isAgg5
 z5:=Try.sizeOf5
 v5:=Try.zeroValue5
 t9:=Try.underlying9
 a9:=Try.isAgg9
 z9:=Try.sizeOf9
 v9:=Try.zeroValue9
 t20:=Try.underlying20
 a20:=Try.isAgg20
 z20:=Try.sizeOf20
 v20:=Try.zeroValue20
 t37:=Try.underlying33
 a37:=Try.isAgg33
 z37:=Try.sizeOf33
 v37:=Try.zeroValue33
 t46:=Try.underlying95
 a46:=Try.isAgg95
 z46:=Try.sizeOf95
 v46:=Try.zeroValue95
 t51:=Try.underlying120
 a51:=Try.isAgg120
 z51:=Try.sizeOf120
 v51:=Try.zeroValue120
 t53:=Try.underlying123
 a53:=Try.isAgg123
 z53:=Try.sizeOf123
 v53:=Try.zeroValue123
 t70:=Try.underlying109
 a70:=Try.isAgg109
 z70:=Try.sizeOf109
 v70:=Try.zeroValue109
 t72:=Try.underlying111
 a72:=Try.isAgg111
 z72:=Try.sizeOf111
 v72:=Try.zeroValue111
 t75:=Try.underlying114
 a75:=Try.isAgg114
 z75:=Try.sizeOf114
 v75:=Try.zeroValue114
 t76:=Try.underlying115
 a76:=Try.isAgg115
 z76:=Try.sizeOf115
 v76:=Try.zeroValue115
 t109:=Try.underlying106
 a109:=Try.isAgg106
 z109:=Try.sizeOf106
 v109:=Try.zeroValue106
 t127:=Try.underlying126
 a127:=Try.isAgg126
 z127:=Try.sizeOf126
 v127:=Try.zeroValue126
 t146:=Try.underlying121
 a146:=Try.isAgg121
 z146:=Try.sizeOf121
 v146:=Try.zeroValue121
 t148:=Try.underlying124
 a148:=Try.isAgg124
 z148:=Try.sizeOf124
 v148:=Try.zeroValue124
 t164:=Try.underlying127
 a164:=Try.isAgg127
 z164:=Try.sizeOf127
 v164:=Try.zeroValue127 }
theorem Try.Builder_Extra_105 : Builder.Extra Try.prog Try.lays105_ren:={
 sizeBuilder:=by kernel_rfl
 liesBuilder:=by kernel_rfl
 t5:=Try.underlying5
 a5:=Try.isAgg5
 z5:=Try.sizeOf5
 v5:=Try.zeroValue5
 infoByte:=by kernel_rfl
 cellsByte:=by kernel_rfl
 sizeByte:=by kernel_rfl
 neB5:=by decide }
open Go.RowKit Go.Lib in
theorem Try.strings_Repeat (s : ByteArray) (c : Nat) (w : World) (hc : c≤9223372036854775807) (hlen : s.size*c≤140737488355328) :
  Calls Try.prog 79 #[.string s,.int .i64 c] w fun e w' => e = .returned (.string ⟨(Lib.repeatL s.data.toList c).toArray⟩)∧Below w.heap.size w w':=Any.strings_Repeat Try.lays105 Try.Builder_Extra_105 s c w hc hlen
end Go.Proofs
end
section
namespace Go.Proofs.Ytoinoihiknmnmaa.Row
open Go Go.RowKit Go.Proofs.YtoinoihiknmnmaaW.PrintWords Go.Proofs.YtoinoihiknmnmaaW.PrintLast Go.Proofs.YtoinoihiknmnmaaW.PrintMore
set_option linter.unusedVariables false
set_option linter.unusedSimpArgs false
theorem run_copy_rowk {P : Program} (w : World) (dT sT ty elem : TypeId) (sz : Nat) (g o dLen dCap : Nat) (a : Addr) (sLen sCap : Nat) (cur : Array Value) (t : TypeId) (cs : List Value)
  (hu : P.underlying dT=some (.slice elem)) (hs : (P.info? elem).map (·.size)=some sz)
  (hg : w.heap[g]? = some (.cells cur t (0,0))) (hn : cs.length=Nat.min sLen dLen*sz)
  (hsrc : ∀ j v,cs[j]? = some v→w.cell? (a.add j)=some v) (hfit : o+cs.length≤cur.size) (h1 : ∀ v ∈ cs,v.oneCell' = true) :
  (Builtin.copy_ #[dT,sT] ty #[.slice (some ⟨g,o,none⟩) dLen dCap,.slice (some a) sLen sCap]).run P w =
   .ok (goInt (Nat.min sLen dLen)) (w.setRow g (cur.toList.take o++cs++cur.toList.drop (o+cs.length)).toArray):=by
 have hl:=run_loadCells_list (P:=P) w a cs hsrc
 have hst:=run_storeCells_at (P:=P) g o t cs 0 cur w hg (by simpa using hfit) h1
 cases hq : P.info? elem with
 | none=>simp [hq] at hs
 | some i =>
  have hi : i.size=sz:=by simpa [hq] using hs
  simp [Builtin.copy_,run_underlying hu,Builtin.lenOf,Builtin.firstCells,sizeOf,typeInfo,hq,hi,← hn,hl,hst]
theorem reps_drop {α : Type} {R : α→List Value→Prop} {size m : Nat} {ps : List α} {cs : List Value} (h : Reps R size ps cs) : Reps R size (ps.drop m) (cs.drop (m*size)):=by
 refine ⟨?_,fun j p hj=>?_⟩
 ·
  rw [List.length_drop,List.length_drop,h.1,Nat.sub_mul]
 ·
  rw [List.getElem?_drop] at hj
  have h2:=h.2 (m+j) p hj
  rw [List.drop_drop]
  rwa [Nat.add_mul] at h2
theorem reps_one {α : Type} {R : α→List Value→Prop} {size : Nat} {p : α} {cs : List Value} (h : R p cs) (hl : cs.length=size) : Reps R size [p] cs:=by
 have:=(Reps.none R size).snoc h hl
 simpa using this
theorem R_again {α : Type} {d : Kd α} {e base : Nat} {ok : Nat→Prop} {W w1 : World} {v v1 : Value} {ys : List α} {cells : List Value}
  (h0 : ∀ k,v.ownBlock=some k→ok k) (hr : Reps (d.M W base (fun k=>ok k∧some k≠v.ownBlock)) d.sz ys cells) (hfresh : ∀ k,W.heap.size≤k→ok k)
  (hown : w1.ownsRow base e d.sz v1 ys.length cells) (hg : W.grownBy w1 v.ownBlock) (hat : v1.ownBlock=v.ownBlock∨v1.ownBlock=none ∨ ∃ b,v1.ownBlock=some b∧W.heap.size≤b) : d.R e w1 base ok v1 ys:=by
 have hne : ∀ k,some k≠v.ownBlock→k<W.heap.size→some k≠v1.ownBlock:=by
  intro k hk hlt
  rcases hat with hat|hat|⟨b,hb,hle⟩
  ·
   rw [hat];exact hk
  ·
   rw [hat];simp
  ·
   rw [hb];intro he;injection he with he;omega
 refine ⟨fun k hk=>?_,cells,hown,?_⟩
 ·
  rcases hat with hat|hat|⟨b,hb,hle⟩
  ·
   exact h0 k (hat ▸ hk)
  ·
   rw [hat] at hk;cases hk
  ·
   rw [hb] at hk;injection hk with hk;exact hfresh k (by omega)
 ·
  refine hr.imp_ (fun q c hq=>?_)
  have h1:=d.M_move (w1:=w1) (fun k hk=>hg.block k hk.2.2.1 hk.1.2) (d.M_bound hq)
  exact d.M_mono (fun k hk=>⟨hk.1.1,hne k hk.1.2 hk.2.2.1⟩) h1
theorem exec_copy {P : Program} {w w' : World} {o : Oper} {a : Act} (d x : Operand) (t t' : TypeId) (ho : o.op = .call { callee:=.builtin .copy,args:=#[d,x],argTypes:=#[t,t'] }) {v u r : Value} (hd : a.eval d=v) (hx : a.eval x=u)
  (hr : (Builtin.copy_ #[t,t'] o.type #[v,u]).run P w = .ok r w') : (execOp a.eval o).run P w = .ok (.value r) w':=by
 unfold execOp
 simp only [ho,resolve,invoke,builtin,Sem.run_bind,Sem.run_pure,Result.andThen_ok,List.map_toArray,List.map_cons,List.map_nil,hd,hx,hr]
theorem copy_run {P : Program} {w w' : World} {ops : Array Oper} {rest : List Oper} {o : Oper} {a : Act} {Q : Exit→Act→World→Prop} (hgd : o.guard=none) (d x : Operand) (t t' : TypeId) (ho : o.op = .call { callee:=.builtin .copy,args:=#[d,x],argTypes:=#[t,t'] }) (v u : Value) (hd : a.eval d=v) (hx : a.eval x=u) {r : Value}
  (hr : (Builtin.copy_ #[t,t'] o.type #[v,u]).run P w = .ok r w') (h : wpList P ops Q rest (a.put o.dst r) w') : wpList P ops Q (o :: rest) a w:=Kd.event_run hgd (exec_copy d x t t' ho hd hx hr) h
theorem copy_step {P : Program} {w w' : World} {ops : Array Oper} {o : Oper} {a : Act} {K : Act→World→Prop} {Q : Exit→Act→World→Prop} {E : Prop} (hgd : o.guard=none) (d x : Operand) (t t' : TypeId) (ho : o.op = .call { callee:=.builtin .copy,args:=#[d,x],argTypes:=#[t,t'] }) (v u : Value) (hd : a.eval d=v) (hx : a.eval x=u) {r : Value}
  (hr : (Builtin.copy_ #[t,t'] o.type #[v,u]).run P w = .ok r w') (h : K (a.put o.dst r) w') : if Region.wanted o (yielded ops a.tmps)=true then Oper.wp P o a w K Q else E:=by
 have hw : Region.wanted o (yielded ops a.tmps)=true:=by simp [Region.wanted,hgd]
 rw [if_pos hw]
 unfold Oper.wp
 rw [exec_copy d x t t' ho hd hx hr]
 exact h
theorem R_empty {α : Type} (d : Kd α) (e base : Nat) (W : World) (ok : Nat→Prop) (hok : ok W.heap.size) (hb : base≤W.heap.size) : d.R e (W.alloc (.cells #[] e)) base ok (.slice (some ⟨W.heap.size,0,none⟩) 0 0) [] :=
 ⟨fun k hk=>by
  have h : W.heap.size=k:=by simpa [Value.ownBlock] using hk
  rw [← h];exact hok,[],⟨by simp,.inr ⟨W.heap.size,0,#[],rfl,hb,blk_new W _,Nat.le_refl _,by unfold maxLen;omega,by simp,by simp⟩⟩,Reps.none _ _⟩
end Go.Proofs.Ytoinoihiknmnmaa.Row
end
