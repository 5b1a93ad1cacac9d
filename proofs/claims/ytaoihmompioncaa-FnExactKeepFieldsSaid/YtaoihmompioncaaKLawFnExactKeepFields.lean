/- FnExactKeepFields: for all arguments the law answers true, and they read behind the call as they read before. No condition. -/
import Derived.Test.YtaoihmompioncaaKLawFnExactKeepFieldsp26
import Derived.Test.YtaoihmompioncaaRows
import Derived.Carry
section
namespace Go.Proofs.Ytaoihmompioncaa.Pure
open Go Go.RowKit Go.Proofs.Ytaoihmompioncaa.Q Go.Proofs.YtaoihmompioncaaW.PrintWords Go.Proofs.YtaoihmompioncaaW.PrintLast Go.Proofs.YtaoihmompioncaaW.PrintMore Go.Proofs.YtaoihmompioncaaW.Pl
def isL (c : Int) : Bool:=(decide (97≤c) && decide (c≤122)) || (decide (65≤c) && decide (c≤90)) || (c == 95)
def isD (c : Int) : Bool:=decide (48≤c) && decide (c≤57)
theorem specL (c : Int) : F0f.f c=some (isL c):=by
 unfold F0f.f isL
 split <;> split <;> (try split) <;> (try split) <;> simp <;> omega
theorem implL (c : Int) : F0h.f c=some (isL c):=by
 unfold F0h.f isL
 split <;> split <;> (try split) <;> (try split) <;> simp <;> omega
theorem specD (c : Int) : F0j.f c=some (isD c):=by
 unfold F0j.f isD
 split <;> simp <;> omega
theorem implD (c : Int) : F0g.f c=some (isD c):=by
 unfold F0g.f isD
 split <;> simp <;> omega
def wgo (first : Bool) : List Int→Bool
 | [] => true
 | c :: cs => (isL c || (isD c && !first)) && wgo false cs
def word (s : ByteArray) : Bool:=wgo true (bytesOf s) && (decide (1≤(s.size : Int)) && decide ((s.size : Int)≤40))
theorem word_spec (s : ByteArray) (hs : s.size≤1048576) : Eve (fun k => F8.f k s) (word s):=by
 have hn : (bytesOf s).length=s.size:=bytesOf_length s;have hj : Eve (fun k => F8.j0 k s true) false:=Eve.succ (by simp only [F8.j0,if_true];exact Eve.one);simp only [F8.f];refine Eve.ite (fun h => hj.eq ?_) (fun h => ?_)
 ·
  have : decide (1≤(s.size : Int))=false:=by simp;omega
  simp [word,this]
 refine Eve.ite (fun h2 => hj.eq ?_) (fun h2 => ?_)
 ·
  have : decide ((s.size : Int)≤40)=false:=by simp;omega
  simp [word,this]
 refine Eve.ite (fun _ => ?_) (fun h => absurd (by omega) h)
 have hw : word s=wgo true (bytesOf s):=by
  have a1 : decide (1≤(s.size : Int))=true:=by simp;omega
  have a2 : decide ((s.size : Int)≤40)=true:=by simp;omega
  simp [word,a1,a2]
 have hb:=bt_get s 0 (by omega);simp only [show ((0 : Nat) : Int)=0 from rfl] at hb;have hc : bytesOf s=bt s 0 :: (bytesOf s).drop 1:=by rw [hb];exact drop_at (bytesOf s) 0 (by omega)
 simp only [specL,Option.bind_some]
 cases hl : isL (bt s 0) with
 | false =>
  refine hj.eq ?_;rw [hw,hc];simp [wgo,hl]
 | true =>
  refine Eve.succ ?_;simp only [F8.j0,Bool.not_true,Bool.false_eq_true,if_false]
  have:=ev_loop (bytesOf s) (fun k (_ : Unit) i => F8.l0 k s i) (fun _ _ r => wgo false r) (fun i _ => 1≤i) (fun _ _ => by
   simp only [F8.l0]
   exact Eve.ite (fun h => absurd h (by omega)) (fun _ => Eve.one)) (fun i hi _ hI ih => by
   have hnx:=ih () (by omega);simp only [F8.l0,specL,specD,Option.bind_some,wi (show i≤9223372036854775806 by omega),bt_get s i hi];refine Eve.ite (fun _ => ?_) (fun h => absurd (by omega) h);refine Eve.ite (fun _ => ?_) (fun h => absurd (by omega) h);refine Eve.ite (fun h1 => hnx.eq (by simp [wgo,h1])) (fun h1 => ?_)
   exact Eve.ite (fun h2 => hnx.eq (by simp [wgo,h2])) (fun h2 => Eve.one.eq (by simp [wgo,h1,h2]))) ((bytesOf s).length - 1) 1 () (by omega) (by omega)
  refine this.eq ?_;rw [hw]
  conv => rhs;rw [hc]
  simp [wgo,hl]
theorem word_impl (s : ByteArray) (hs : s.size≤1048576) : Eve (fun k => Fl.f k s) (word s):=by
 have hn : (bytesOf s).length=s.size:=bytesOf_length s;simp only [Fl.f];refine ev_loop0 (bytesOf s) (fun k (_ : Unit) i => Fl.l0 k s (s.size : Int) i) (fun i _ r => wgo (decide (i=0)) r && (decide (1≤(s.size : Int)) && decide ((s.size : Int)≤40))) (fun _ _ => True) (fun _ _ => ?_) (fun i hi _ _ ih => ?_) () trivial
 ·
  simp only [Fl.l0]
  refine Eve.ite (fun h => absurd h (by omega)) (fun _ => Eve.all fun k => ?_);unfold F05.f
  by_cases h : 1≤(s.size : Int)
  ·
   rw [if_pos h];simp [wgo,h]
  rw [if_neg h];simp [wgo,h]
 have hnx:=ih () trivial;simp only [Nat.add_one_ne_zero,decide_false] at hnx;simp only [Fl.l0,implL,implD,Option.bind_some,wi (show i≤9223372036854775806 by omega),bt_get s i hi];refine Eve.ite (fun _ => ?_) (fun h => absurd (by omega) h);refine Eve.ite (fun _ => ?_) (fun h => absurd (by omega) h);refine Eve.ite (fun _ => ?_) (fun h => absurd (by omega) h);refine Eve.ite (fun h1 => hnx.eq (by simp [wgo,h1])) (fun h1 => ?_);refine Eve.ite (fun h2 => ?_) (fun h2 => Eve.one.eq (by simp [wgo,h1,h2]));refine Eve.ite (fun h3 => Eve.one.eq ?_) (fun h3 => hnx.eq ?_)
 ·
  obtain rfl : i=0:=by omega
  simp [wgo,h1]
 have : ¬ i=0:=by omega
 simp [wgo,h2,this]
def nam (s : ByteArray) : Bool:=word s && decide ((s.size : Int)≤12)
theorem nam_spec (s : ByteArray) (hs : s.size≤1048576) : Eve (fun k => Fy.f k s) (nam s):=by
 simp only [Fy.f,F0c.f];refine Eve.bind (v:=word s) (Eve.bind (word_spec s hs) Eve.one) ?_;refine Eve.ite (fun h => Eve.one.eq (by simp [nam,h])) (fun h => Eve.one.eq (by simp [nam,h]))
theorem nam_impl (s : ByteArray) (hs : s.size≤1048576) : Eve (fun k => Fx.f k s) (nam s):=by
 simp only [Fx.f];refine Eve.ite (fun h => (Eve.bind (word_impl s hs) Eve.one).eq (by simp [nam,h])) (fun h => Eve.one.eq (by simp [nam,h]))
def nms : Option ByteArray→List IFld→Bool
 | _,[] => true
 | p,f :: fs => nam f.f0 && ((match p with|none => true|some q => Op.bytesLess q.toList f.f0.toList) && nms (some f.f0) fs)
def inr (a b c : Int) : Bool:=decide (b≤a) && decide (a≤c)
theorem in_spec (a b c : Int) : F0d.f a b c=some (inr a b c):=by
 unfold F0d.f inr
 by_cases h : b≤a
 ·
  rw [if_pos h];simp [h]
 rw [if_neg h];simp [h]
theorem in_impl (a b c : Int) : F05.f a b c=some (inr a b c):=in_spec a b c
abbrev emB (a : ByteArray) : Bool:=a.toList == ([] : List UInt8)
def flat (v : IVal) : Bool :=
 if v.f0=0 then decide (v.f1=0) && emB v.f2
 else if v.f0=1 then inr v.f1 0 1 && emB v.f2
 else if v.f0=2 then inr v.f1 (-1000000000000) 1000000000000 && emB v.f2
 else if v.f0=3 then decide (v.f1=0) && decide ((v.f2.size : Int)≤300)
 else false
def rightV : Nat→IVal→Bool
 | 0,v => flat v
 | d + 1,v =>
  if v.f0=4 then decide (v.f1=0) && (decide ((v.f2.size : Int)≤300) && (match itS v.f2.size v.f2 with|some l => l.all (rightV d)|none => false))
  else if v.f0=5 then decide (v.f1=0) && (decide ((v.f2.size : Int)≤300) && (match fdS v.f2.size v.f2 with|some l => nms none l && l.all (fun f => rightV d f.f1)|none => false))
  else flat v
theorem bad_right (v : IVal) (h : Bad v) : ∀ d,rightV d v=false:=by
 have hf : flat v=false:=by
  unfold flat;rcases h with h|h|⟨h,h2⟩
  ·
   rw [if_neg (by omega),if_neg (by omega),if_neg (by omega),if_neg (by omega)]
  ·
   rw [if_neg (by omega),if_neg (by omega),if_neg (by omega),if_neg (by omega)]
  rw [if_neg (by omega),if_neg (by omega),if_pos h];have : inr v.f1 (-1000000000000) 1000000000000=false:=by unfold inr;simp;omega
  rw [this];rfl
 intro d
 cases d with
 | zero => exact hf
 | succ d =>
  unfold rightV;rcases h with h|h|⟨h,h2⟩
  ·
   rw [if_neg (by omega),if_neg (by omega)];exact hf
  ·
   rw [if_neg (by omega),if_neg (by omega)];exact hf
  rw [if_neg (by omega),if_neg (by omega)];exact hf
theorem rdV (l : List IVal) (i : Nat) (h : i<l.length) : rd_T27 l (i : Int)=l[i]:=getD_at _ l i h
theorem rdF (l : List IFld) (i : Nat) (h : i<l.length) : rd_T54 l (i : Int)=l[i]:=getD_at _ l i h
theorem its_size : ∀ (m : Nat) (a : ByteArray) (l : List IVal),itS m a=some l→a.size≤1048576→l.length≤a.size ∧ ∀ x ∈ l,x.f2.size≤1048576:=by
 intro m
 induction m with
 | zero =>
  intro a l h h2;simp only [itS] at h
  by_cases hz : a.size=0
  ·
   rw [if_pos hz] at h
   obtain rfl : []=l:=by simpa using h
   simp
  rw [if_neg hz] at h;simp at h
 | succ m ih =>
  intro a l h h2;simp only [itS] at h
  by_cases hz : a.size=0
  ·
   rw [if_pos hz] at h
   obtain rfl : []=l:=by simpa using h
   simp
  rw [if_neg hz] at h
  cases hn : nxtV a with
  | none => rw [hn] at h;simp at h
  | some p =>
   obtain ⟨v,r⟩:=p;rw [hn] at h;simp only [Option.map_eq_some_iff] at h;obtain ⟨l',h',rfl⟩:=h;obtain ⟨hs,hlt⟩:=nxt_some a v r hn;have hv:=val_size a false h2;rw [hs] at hv;obtain ⟨i1,i2⟩:=ih r l' h' (by omega);refine ⟨by simp;omega,fun x hx => ?_⟩;rcases List.mem_cons.1 hx with rfl|hx
   ·
    exact hv
   exact i2 x hx
theorem fds_size : ∀ (m : Nat) (a : ByteArray) (l : List IFld),fdS m a=some l→a.size≤1048576→l.length≤a.size ∧ ∀ x ∈ l,x.f0.size≤1048576∧x.f1.f2.size≤1048576:=by
 intro m
 induction m with
 | zero =>
  intro a l h h2;simp only [fdS] at h
  by_cases hz : a.size=0
  ·
   rw [if_pos hz] at h
   obtain rfl : []=l:=by simpa using h
   simp
  rw [if_neg hz] at h;simp at h
 | succ m ih =>
  intro a l h h2;simp only [fdS] at h
  by_cases hz : a.size=0
  ·
   rw [if_pos hz] at h
   obtain rfl : []=l:=by simpa using h
   simp
  rw [if_neg hz] at h
  by_cases hy : (a.size : Int)<1 + bt a 0
  ·
   rw [if_pos hy] at h;simp at h
  rw [if_neg hy] at h;have ht:=tail_size a (1 + bt a 0).toNat;have hb:=bt_range a 0
  cases hn : nxtV (a.extract (1 + bt a 0).toNat a.size) with
  | none => rw [hn] at h;simp at h
  | some p =>
   obtain ⟨v,r⟩:=p;rw [hn] at h;simp only [Option.map_eq_some_iff] at h;obtain ⟨l',h',rfl⟩:=h;obtain ⟨hs,hlt⟩:=nxt_some _ v r hn;have hv:=val_size (a.extract (1 + bt a 0).toNat a.size) false (by omega);rw [hs] at hv;obtain ⟨i1,i2⟩:=ih r l' h' (by omega);refine ⟨by simp;omega,fun x hx => ?_⟩;rcases List.mem_cons.1 hx with rfl|hx
   ·
    exact ⟨by simp only [ByteArray.size_extract];omega,hv⟩
   exact i2 x hx
theorem dn (d : Nat) (h : d≤1000) : wrap64 (((d + 1 : Nat) : Int) - 1)=(d : Int):=by rw [w64 (by omega) (by omega)];omega
theorem spec_flat (v : IVal) (e : Int) (h4 : v.f0≠4) (h5 : v.f0≠5) : Eve (fun k => F0.f k v.f0 v.f1 v.f2 e) (flat v):=by
 refine Eve.succ ?_;simp only [F0.f,in_spec,Option.bind_some];unfold flat;refine Eve.ite (fun h => ?_) (fun h => ?_)
 ·
  rw [if_pos h]
  exact Eve.ite (fun h => Eve.one.eq (by simp [h])) (fun h => Eve.one.eq (by simp [h]))
 rw [if_neg h];refine Eve.ite (fun h => ?_) (fun h => ?_)
 ·
  rw [if_pos h]
  exact Eve.ite (fun h => Eve.one.eq (by simp [h])) (fun h => Eve.one.eq (by simp [h]))
 rw [if_neg h];refine Eve.ite (fun h => ?_) (fun h => ?_)
 ·
  rw [if_pos h]
  exact Eve.ite (fun h => Eve.one.eq (by simp [h])) (fun h => Eve.one.eq (by simp [h]))
 rw [if_neg h];refine Eve.ite (fun h => ?_) (fun h => ?_)
 ·
  rw [if_pos h]
  exact Eve.ite (fun h => Eve.one.eq (by simp [h])) (fun h => Eve.one.eq (by simp [h]))
 rw [if_neg h];refine Eve.ite (fun h => absurd h h4) (fun _ => ?_);exact Eve.ite (fun h => absurd h h5) (fun _ => Eve.one)
theorem impl_flat (v : IVal) (e : Int) (h4 : v.f0≠4) (h5 : v.f0≠5) : Eve (fun k => F5.f k v.f0 v.f1 v.f2 e) (flat v):=by
 refine Eve.succ ?_;simp only [F5.f,F0k.f,in_impl,Option.bind_some];unfold flat;refine Eve.ite (fun h => ?_) (fun h => ?_)
 ·
  rw [if_pos h]
  exact Eve.one.eq (by rw [h];by_cases h1 : v.f1=0 <;> simp [h1])
 rw [if_neg h];refine Eve.ite (fun h => ?_) (fun h => ?_)
 ·
  rw [if_pos h]
  exact Eve.ite (fun h => Eve.one.eq (by simp [h])) (fun h => Eve.one.eq (by simp [h]))
 rw [if_neg h];refine Eve.ite (fun h => ?_) (fun h => ?_)
 ·
  rw [if_pos h]
  exact Eve.ite (fun h => Eve.one.eq (by simp [h])) (fun h => Eve.one.eq (by simp [h]))
 rw [if_neg h];refine Eve.ite (fun h => ?_) (fun h => ?_)
 ·
  rw [if_pos h]
  exact Eve.ite (fun h => Eve.one.eq (by simp [h])) (fun h => Eve.one.eq (by simp [h]))
 rw [if_neg h];refine Eve.ite (fun h => absurd h h4) (fun _ => ?_);have : (v.f0 == 5)=false:=by simpa using h5
 simp only [this];refine Eve.succ ?_;simp only [F5.j0,Bool.false_eq_true,if_false];exact Eve.one
theorem spec_j0_true (e : Int) (l : List IVal) : Eve (fun k => F0.j0 k e l true) false:=Eve.succ (by simp only [F0.j0,if_true];exact Eve.one)
theorem spec_j2_true (e : Int) (l : List IFld) : Eve (fun k => F0.j2 k e l true) false:=Eve.succ (by simp only [F0.j2,if_true];exact Eve.one)
theorem right_spec : ∀ (d : Nat) (v : IVal),d≤1000→v.f2.size≤1048576→Eve (fun k => F0.f k v.f0 v.f1 v.f2 (d : Int)) (rightV d v):=by
 intro d
 induction d with
 | zero =>
  intro v hd hs
  by_cases h4 : v.f0=4
  ·
   have hf : flat v=false:=by unfold flat;rw [if_neg (by omega),if_neg (by omega),if_neg (by omega),if_neg (by omega)]
   show Eve _ (flat v);rw [hf];refine Eve.succ ?_;simp only [F0.f,h4];simp only [show ¬ (4 : Int)=0 by omega,show ¬ (4 : Int)=1 by omega,show ¬ (4 : Int)=2 by omega,show ¬ (4 : Int)=3 by omega,if_false,if_true];simp only [Fk.f];refine Eve.bind (items_spec _ v.f2 [] (Nat.le_refl _) hs (by simp;omega)) ?_;have hj:=spec_j0_true ((0 : Nat) : Int) (toldL [] (itS v.f2.size v.f2)).1;refine Eve.ite (fun _ => ?_) (fun _ => hj);refine Eve.ite (fun _ => ?_) (fun _ => hj);exact Eve.ite (fun _ => hj) (fun _ => hj)
  by_cases h5 : v.f0=5
  ·
   have hf : flat v=false:=by unfold flat;rw [if_neg (by omega),if_neg (by omega),if_neg (by omega),if_neg (by omega)]
   show Eve _ (flat v);rw [hf];refine Eve.succ ?_;simp only [F0.f,h5];simp only [show ¬ (5 : Int)=0 by omega,show ¬ (5 : Int)=1 by omega,show ¬ (5 : Int)=2 by omega,show ¬ (5 : Int)=3 by omega,show ¬ (5 : Int)=4 by omega,if_false,if_true];simp only [Ff.f];refine Eve.bind (fields_spec _ v.f2 [] (Nat.le_refl _) hs (by simp;omega)) ?_;have hj:=spec_j2_true ((0 : Nat) : Int) (toldF [] (fdS v.f2.size v.f2)).1;refine Eve.ite (fun _ => ?_) (fun _ => hj);refine Eve.ite (fun _ => ?_) (fun _ => hj);exact Eve.ite (fun _ => hj) (fun _ => hj)
  exact spec_flat v _ h4 h5
 | succ d ih =>
  intro v hd hs;have he : (((d + 1 : Nat) : Int) == 0)=false:=by simp;omega
  by_cases h4 : v.f0=4
  ·
   unfold rightV
   rw [if_pos h4];refine Eve.succ ?_;simp only [F0.f,h4];simp only [show ¬ (4 : Int)=0 by omega,show ¬ (4 : Int)=1 by omega,show ¬ (4 : Int)=2 by omega,show ¬ (4 : Int)=3 by omega,if_false,if_true];simp only [Fk.f];refine Eve.bind (items_spec _ v.f2 [] (Nat.le_refl _) hs (by simp;omega)) ?_;have hj:=spec_j0_true ((d + 1 : Nat) : Int) (toldL [] (itS v.f2.size v.f2)).1;refine Eve.ite (fun h1 => ?_) (fun h1 => hj.eq (by simp [h1]))
   cases hi : itS v.f2.size v.f2 with
   | none =>
    rw [hi] at hj;simp only [toldL,Bool.false_eq_true,if_false];exact hj.eq (by simp)
   | some l =>
    rw [hi] at hj;simp only [toldL,if_true,List.nil_append] at hj ⊢;refine Eve.ite (fun h2 => hj.eq ?_) (fun h2 => ?_)
    ·
     have : decide ((v.f2.size : Int)≤300)=false:=by simp;omega
     simp [this]
    obtain ⟨hl1,hl2⟩:=its_size _ _ l hi hs;have hsz : decide ((v.f2.size : Int)≤300)=true:=by simp;omega
    simp only [he];refine Eve.succ ?_;simp only [F0.j0,Bool.false_eq_true,if_false]
    have:=ev_loop0 l (fun k (_ : Unit) i => F0.l0 k ((d + 1 : Nat) : Int) l i) (fun _ _ r => r.all (rightV d)) (fun _ _ => True) (fun _ _ => by
     simp only [F0.l0]
     exact Eve.ite (fun h => absurd h (by omega)) (fun _ => Eve.one)) (fun i hi _ _ ih2 => by
     simp only [F0.l0];refine Eve.ite (fun _ => ?_) (fun h => absurd (by omega) h);refine Eve.ite (fun _ => ?_) (fun h => absurd (by omega) h);simp only [rdV l i hi,dn d (by omega),wi (show i≤9223372036854775806 by omega)];refine Eve.bind (ih l[i] (by omega) (hl2 _ (List.getElem_mem hi))) ?_
     exact Eve.ite (fun h => (ih2 () trivial).eq (by rw [List.all_cons,h,Bool.true_and])) (fun h => Eve.one.eq (by rw [List.all_cons,Bool.eq_false_iff.mpr h,Bool.false_and]))) () trivial
    exact this.eq (by simp [h1,hsz])
  by_cases h5 : v.f0=5
  ·
   unfold rightV
   rw [if_neg h4,if_pos h5];refine Eve.succ ?_;simp only [F0.f,h5];simp only [show ¬ (5 : Int)=0 by omega,show ¬ (5 : Int)=1 by omega,show ¬ (5 : Int)=2 by omega,show ¬ (5 : Int)=3 by omega,show ¬ (5 : Int)=4 by omega,if_false,if_true];simp only [Ff.f];refine Eve.bind (fields_spec _ v.f2 [] (Nat.le_refl _) hs (by simp;omega)) ?_;have hj:=spec_j2_true ((d + 1 : Nat) : Int) (toldF [] (fdS v.f2.size v.f2)).1;refine Eve.ite (fun h1 => ?_) (fun h1 => hj.eq (by simp [h1]))
   cases hi : fdS v.f2.size v.f2 with
   | none =>
    rw [hi] at hj;simp only [toldF,Bool.false_eq_true,if_false];exact hj.eq (by simp)
   | some l =>
    rw [hi] at hj;simp only [toldF,if_true,List.nil_append] at hj ⊢;refine Eve.ite (fun h2 => hj.eq ?_) (fun h2 => ?_)
    ·
     have : decide ((v.f2.size : Int)≤300)=false:=by simp;omega
     simp [this]
    obtain ⟨hl1,hl2⟩:=fds_size _ _ l hi hs;have hsz : decide ((v.f2.size : Int)≤300)=true:=by simp;omega
    simp only [he];refine Eve.succ ?_;simp only [F0.j2,Bool.false_eq_true,if_false]
    have:=ev_loop0 l (fun k (_ : Unit) i => F0.l1 k ((d + 1 : Nat) : Int) l i) (fun i _ r => nms (if i=0 then none else some (l.getD (i - 1) z54).f0) r && r.all (fun f => rightV d f.f1)) (fun _ _ => True) (fun _ _ => by
     simp only [F0.l1]
     exact Eve.ite (fun h => absurd h (by omega)) (fun _ => Eve.one.eq (by simp [nms]))) (fun i hi _ _ ih2 => by
     have hnx:=ih2 () trivial;simp only [Nat.add_one_ne_zero,if_false,Nat.add_sub_cancel,List.getD_eq_getElem?_getD,List.getElem?_eq_getElem hi,Option.getD_some] at hnx;simp only [F0.l1];refine Eve.ite (fun _ => ?_) (fun h => absurd (by omega) h);refine Eve.ite (fun _ => ?_) (fun h => absurd (by omega) h);have hm:=hl2 _ (List.getElem_mem hi);simp only [rdF l i hi,dn d (by omega),wi (show i≤9223372036854775806 by omega)];refine Eve.bind (nam_spec _ hm.1) ?_;refine Eve.ite (fun hn => ?_) (fun hn => Eve.one.eq (by simp [nms,hn]));refine Eve.ite (fun h3 => ?_) (fun h3 => ?_)
     ·
      have hw : wrap64 ((i : Int) - 1)=((i - 1 : Nat) : Int):=by rw [w64 (by omega) (by omega)];omega
      simp only [hw];refine Eve.ite (fun _ => ?_) (fun h => absurd (by omega) h);refine Eve.ite (fun _ => ?_) (fun h => absurd (by omega) h);rw [if_neg (by omega),List.getD_eq_getElem?_getD,List.getElem?_eq_getElem (show i - 1<l.length by omega),Option.getD_some];simp only [rdF l (i - 1) (show i - 1<l.length by omega)];refine Eve.ite (fun h6 => ?_) (fun h6 => Eve.one.eq (by simp [nms,h6]));refine Eve.bind (ih l[i].f1 (by omega) hm.2) ?_;exact Eve.ite (fun h => hnx.eq (by simp only [nms,hn,h6,List.all_cons,h,Bool.true_and])) (fun h => Eve.one.eq (by rw [List.all_cons,Bool.eq_false_iff.mpr h,Bool.false_and,Bool.and_false]))
     obtain rfl : i=0:=by omega
     rw [if_pos rfl];refine Eve.bind (ih l[0].f1 (by omega) hm.2) ?_
     exact Eve.ite (fun h => hnx.eq (by simp [nms,hn,h])) (fun h => Eve.one.eq (by simp [h]))) () trivial
    rw [if_pos rfl] at this;exact this.eq (by simp [h1,hsz])
  unfold rightV;rw [if_neg h4,if_neg h5];exact spec_flat v _ h4 h5

theorem str_app (a b : List Int) : strOfNums (a ++ b)=strOfNums a ++ strOfNums b:=by
 apply ba_ext;rw [ba_toList,ba_toList,ByteArray.data_append,Array.toList_append,strOfNums_data,strOfNums_data,strOfNums_data,List.map_append]
theorem str_bytes (s : ByteArray) : strOfNums (bytesOf s)=s:=by
 apply ba_ext;rw [ba_toList,ba_toList,strOfNums_data,bytesOf,List.map_map]
 conv => rhs;rw [← List.map_id s.data.toList]
 refine List.map_congr_left (fun b _ => ?_);show UInt8.ofNat ((b.toNat : Int)).toNat=b;rw [Int.toNat_natCast];exact UInt8.ofNat_toNat
abbrev Byts (l : List Int) : Prop:=∀ b ∈ l,0≤b∧b≤255
theorem right_five {d : Nat} {v : IVal} (h : rightV d v=true) (h5 : v.f0=5) : ∃ e l,d=e + 1∧fdS v.f2.size v.f2=some l∧nms none l=true∧l.all (fun f => rightV e f.f1)=true:=by
 have h4 : ¬ v.f0=4:=by omega
 cases d with
 | zero =>
  have : flat v=true:=h;unfold flat at this;rw [if_neg (by omega),if_neg (by omega),if_neg (by omega),if_neg (by omega)] at this
  cases this
 | succ e =>
  unfold rightV at h;rw [if_neg h4,if_pos h5] at h
  cases hi : fdS v.f2.size v.f2 with
  | none => rw [hi] at h;simp at h
  | some l =>
   rw [hi] at h;simp only [Bool.and_eq_true] at h;exact ⟨e,l,rfl,rfl,h.2.2.1,h.2.2.2⟩
theorem filled {α : Type} (ys : List α) (n : Nat) (c : Nat→α) (h1 : ys.length=n) (h2 : ∀ j,j<n→ys[j]? = some (c j)) : ys=(List.range n).map c:=by
 apply List.ext_getElem?
 intro j
 by_cases hj : j<n
 ·
  rw [h2 j hj];simp [hj]
 rw [List.getElem?_eq_none (by omega),List.getElem?_eq_none (by simp;omega)]
theorem fill_next {α : Type} (ys : List α) (i : Nat) (c : Nat→α) (h1 : i<ys.length) (h2 : ∀ j,j<i→ys[j]? = some (c j)) : ∀ j,j<i + 1→(ys.set i (c i))[j]? = some (c j):=by
 intro j hj
 by_cases h : j=i
 ·
  subst h;simp [h1]
 rw [List.getElem?_set_ne (by omega)];exact h2 j (by omega)
def Shape (v : IVal) : Prop :=
 (v.f0=0∧v.f1=0∧v.f2=eB)∨(v.f0=1∧(0≤v.f1∧v.f1≤1)∧v.f2=eB)∨(v.f0=2∧(-1000000000000≤v.f1∧v.f1≤1000000000000)∧v.f2=eB)∨((3≤v.f0∧v.f0≤5)∧v.f1=0∧v.f2.size≤300)
theorem em_is {a : ByteArray} (h : emB a=true) : a=eB:=ba_ext (by rw [show a.toList=([] : List UInt8) from eq_of_beq h,ba_toList])
theorem flat_shape {v : IVal} (h : flat v=true) : Shape v:=by
 unfold flat at h;unfold Shape
 by_cases q0 : v.f0=0
 ·
  rw [if_pos q0,Bool.and_eq_true,decide_eq_true_eq] at h
  exact .inl ⟨q0,h.1,em_is h.2⟩
 rw [if_neg q0] at h
 by_cases q1 : v.f0=1
 ·
  rw [if_pos q1,Bool.and_eq_true] at h
  have h1:=h.1;unfold inr at h1;rw [Bool.and_eq_true,decide_eq_true_eq,decide_eq_true_eq] at h1;exact .inr (.inl ⟨q1,h1,em_is h.2⟩)
 rw [if_neg q1] at h
 by_cases q2 : v.f0=2
 ·
  rw [if_pos q2,Bool.and_eq_true] at h
  have h1:=h.1;unfold inr at h1;rw [Bool.and_eq_true,decide_eq_true_eq,decide_eq_true_eq] at h1;exact .inr (.inr (.inl ⟨q2,h1,em_is h.2⟩))
 rw [if_neg q2] at h
 by_cases q3 : v.f0=3
 ·
  rw [if_pos q3,Bool.and_eq_true,decide_eq_true_eq,decide_eq_true_eq] at h
  exact .inr (.inr (.inr ⟨by omega,h.1,by omega⟩))
 rw [if_neg q3] at h;cases h
theorem right_shape : ∀ (d : Nat) (v : IVal),rightV d v=true→Shape v:=by
 intro d v h
 cases d with
 | zero => exact flat_shape h
 | succ d =>
  unfold rightV at h
  by_cases h4 : v.f0=4
  ·
   rw [if_pos h4,Bool.and_eq_true,Bool.and_eq_true,decide_eq_true_eq,decide_eq_true_eq] at h
   exact .inr (.inr (.inr ⟨by omega,h.1,by omega⟩))
  rw [if_neg h4] at h
  by_cases h5 : v.f0=5
  ·
   rw [if_pos h5,Bool.and_eq_true,Bool.and_eq_true,decide_eq_true_eq,decide_eq_true_eq] at h
   exact .inr (.inr (.inr ⟨by omega,h.1,by omega⟩))
  rw [if_neg h5] at h;exact flat_shape h
def dig (x : Int) : Nat→List Int
 | 0 => []
 | m + 1 => (shr .i64 x (8 * (m : Int)) % 256) :: dig x m
theorem dig_length (x : Int) : ∀ m,(dig x m).length=m
 | 0 => rfl
 | m + 1 => by rw [dig,List.length_cons,dig_length x m]
theorem shr_at (x : Int) (m : Nat) (h : m≤8) : shr .i64 x (8 * (m : Int))=x / 2 ^ (8 * m):=by
 unfold shr;have e1 : (8 * (m : Int)).toNat=8 * m:=by omega
 have e2 : min (8 * m) (IntKind.bits .i64)=8 * m:=Nat.min_eq_left (by show 8 * m≤64;omega);rw [e1,e2]
theorem shr_zero (x : Int) : shr .i64 x (8 * ((0 : Nat) : Int))=x:=by rw [shr_at x 0 (by omega)];simp
theorem u64_at (m : Nat) (h : m≤8) : IntKind.u64.wrap (wrap64 (8 * (m : Int)))=8 * (m : Int):=by
 rw [w64 (by omega) (by omega)];rw [show IntKind.u64.wrap (8 * (m : Int))=(8 * (m : Int)) % 18446744073709551616 from rfl]
 omega
theorem number_loop (x : Int) : ∀ (m : Nat) (acc : List Int),m≤8→acc.length + m≤100→Eve (fun k => Fb.l0 k x acc ((m : Int) - 1)) (strOfNums (acc ++ dig x m)):=by
 intro m
 induction m with
 | zero =>
  intro acc _ _;refine Eve.succ ?_;simp only [Fb.l0];exact Eve.ite (fun h => absurd h (by omega)) (fun _ => Eve.one.eq (by simp [dig]))
 | succ m ih =>
  intro acc h1 h2;refine Eve.succ ?_;simp only [Fb.l0,show ((m + 1 : Nat) : Int) - 1=(m : Int) by omega,u64_at m (by omega),w64 (show -9223372036854775808≤(m : Int) - 1 by omega) (by omega)];refine Eve.ite (fun _ => ?_) (fun h => absurd (by omega) h);refine Eve.ite (fun _ => ?_) (fun h => absurd (by omega) h);refine Eve.ite (fun _ => ?_) (fun h => absurd (by omega) h);exact (ih _ (by omega) (by simp;omega)).eq (by simp [dig])
theorem number_tells (x : Int) (n : Nat) (h : n≤8) : Eve (fun k => Fb.f k x (n : Int)) (strOfNums (dig x n)):=by
 simp only [Fb.f,w64 (show -9223372036854775808≤(n : Int) - 1 by omega) (by omega)];exact (number_loop x n [] h (by simp;omega)).eq (by simp)
def dig8 (x : Int) (i : Nat) : Int:=shr .i64 x (56 - 8 * (i : Int)) % 256
theorem eight_tells (x : Int) : Eve (fun k => Fn.f k x) (dig x 8):=by
 simp only [Fn.f];refine Eve.ite (fun _ => ?_) (fun h => absurd (by decide) h);have hl : (List.replicate 8 (0 : Int)).length=8:=by simp
 have he : (List.range 8).map (dig8 x)=dig x 8:=rfl;refine ev_loop0 (List.replicate 8 (0 : Int)) (fun k (s : List Int) i => Fn.l0 k x s i) (fun _ _ _ => dig x 8) (fun i s => s.length=8 ∧ ∀ j,j<i→s[j]? = some (dig8 x j)) (fun s hs => ?_) (fun i hi s hs ih => ?_) (List.replicate 8 0) ⟨hl,by intro j hj;omega⟩
 ·
  simp only [Fn.l0]
  refine Eve.ite (fun h => absurd h (by omega)) (fun _ => Eve.one.eq ?_);rw [← he];exact filled s 8 _ hs.1 (fun j hj => hs.2 j (by omega))
 obtain ⟨h1,h2⟩:=hs;have hi8 : i<8:=by omega
 have e1 : wrap64 (8 * (i : Int))=8 * (i : Int):=w64 (by omega) (by omega);have e2 : wrap64 (56 - 8 * (i : Int))=56 - 8 * (i : Int):=w64 (by omega) (by omega);simp only [Fn.l0,e1,e2,Int.toNat_natCast,wi (show i≤9223372036854775806 by omega)];refine Eve.ite (fun _ => ?_) (fun h => absurd (by omega) h);refine Eve.ite (fun _ => ?_) (fun h => absurd (by omega) h);refine Eve.ite (fun _ => ?_) (fun h => absurd (by omega) h);refine Eve.ite (fun _ => ?_) (fun h => absurd (by omega) h);exact ih (s.set i (dig8 x i)) ⟨by simpa using h1,fill_next s i (dig8 x) (by omega) h2⟩
abbrev LVal:=S23

def iv (v : LVal) : IVal:=⟨v.f0,v.f1,v.f2⟩
theorem szValue_tells (v : LVal) (h : v.f2.size≤9223372036854775807) {left : Int} (h0 : 0≤left) (h1 : left≤1048576) :
  F0i.f v.f0 v.f1 v.f2 left=some (if left - v.f2.size<0 then -1 else left - v.f2.size):=by
 unfold F0i.f;rw [w64 (by omega) (by omega)]
 split <;> rfl
theorem toValue_tells (v : LVal) : F02.f v.f0 v.f1 v.f2=some (v.f0,v.f1,v.f2):=rfl
def encB (v : IVal) : List Int :=
 if v.f0=0 then [0] else if v.f0=1 then [1,v.f1] else if v.f0=2 then 2 :: dig (v.f1 + 4611686018427387904) 8
 else v.f0 :: ((v.f2.size : Int) / 256 % 256) :: ((v.f2.size : Int) % 256) :: bytesOf v.f2
theorem enc_length {v : IVal} (h : Shape v) : 1≤(encB v).length∧(encB v).length≤303:=by
 unfold encB;rcases h with ⟨h,_⟩|⟨h,h1,_⟩|⟨h,_⟩|⟨h,_,hz⟩
 ·
  rw [if_pos h];simp
 ·
  rw [if_neg (by omega),if_pos h];simp
 ·
  rw [if_neg (by omega),if_neg (by omega),if_pos h];simp [dig_length]
 rw [if_neg (by omega),if_neg (by omega),if_neg (by omega)];simp only [List.length_cons,bytesOf_length];omega
theorem put_tells (acc : List Int) {v : IVal} (h : Shape v) (ha : acc.length≤1048576) : Eve (fun k => Fw.f k acc v.f0 v.f1 v.f2) (acc ++ encB v):=by
 simp only [Fw.f,Option.bind_some,List.length_append,List.length_cons,List.length_nil,List.append_assoc,List.cons_append,List.nil_append];refine Eve.ite (fun _ => ?_) (fun h => absurd (by omega) h);unfold encB;rcases h with ⟨h,_⟩|⟨h,h1,_⟩|⟨h,h1,_⟩|⟨h,_,hz⟩
 ·
  rw [if_pos h]
  simp only [h];exact Eve.one
 ·
  rw [if_neg (show ¬ v.f0=0 by omega),if_pos h]
  simp only [h,if_true];refine Eve.ite (fun _ => Eve.one.eq ?_) (fun h => absurd (by omega) h);rw [show v.f1 % 256=v.f1 by omega];rfl
 ·
  rw [if_neg (show ¬ v.f0=0 by omega),if_neg (show ¬ v.f0=1 by omega),if_pos h]
  refine Eve.ite (fun h => absurd h (by omega)) (fun _ => Eve.ite (fun _ => ?_) (fun h2 => absurd h h2));rw [show wrap64 (v.f1 + 4611686018427387904)=v.f1 + 4611686018427387904 from w64 (by omega) (by omega)];refine Eve.bind (eight_tells _) ?_;refine Eve.ite (fun _ => Eve.one.eq (by rw [h];rfl)) (fun h => absurd (by rw [dig_length];omega) h)
 rw [if_neg (show ¬ v.f0=0 by omega),if_neg (show ¬ v.f0=1 by omega),if_neg (show ¬ v.f0=2 by omega)];have hk : v.f0 % 256=v.f0:=by omega
 have fin : Eve (fun _ => if acc.length + (0 + 1) + (0 + 1 + 1)<140737488355328 then (if acc.length + (0 + 1 + 1 + 1) + v.f2.size<140737488355328 then some (acc ++ v.f0 % 256 :: (v.f2.size : Int) / 256 % 256 :: (v.f2.size : Int) % 256 :: bytesOf v.f2) else none) else none) (acc ++ v.f0 :: (v.f2.size : Int) / 256 % 256 :: (v.f2.size : Int) % 256 :: bytesOf v.f2) :=
  Eve.ite (fun _ => Eve.ite (fun _ => Eve.one.eq (by rw [hk])) (fun h => absurd (by omega) h)) (fun h => absurd (by omega) h)
 refine Eve.ite (fun h => absurd h (by omega)) (fun _ => Eve.ite (fun h => absurd h (by omega)) (fun _ => ?_));exact Eve.ite (fun _ => fin) (fun _ => Eve.ite (fun _ => fin) (fun _ => Eve.ite (fun _ => fin) (fun h => absurd (by omega) h)))
theorem enc_tells {v : IVal} (h : Shape v) : Eve (fun k => Fz.f k v.f0 v.f1 v.f2) (strOfNums (encB v)):=by
 have n1 : ∀ x : Int,0≤x→x≤255→dig x 1=[x]:=by
  intro x h0 h1;show [shr .i64 x (8 * ((0 : Nat) : Int)) % 256]=[x];rw [shr_zero,show x % 256=x by omega]
 simp only [Fz.f]
 have hk : 0≤v.f0∧v.f0≤5:=by
  rcases h with ⟨h,_⟩|⟨h,_⟩|⟨h,_⟩|⟨h,_⟩ <;> omega
 have t1:=number_tells v.f0 1 (by omega);rw [n1 _ hk.1 (by omega)] at t1;refine Eve.bind t1 ?_;unfold encB;rcases h with ⟨h,_⟩|⟨h,h1,_⟩|⟨h,h1,_⟩|⟨h,_,hz⟩
 ·
  rw [if_pos h]
  simp only [h,if_true];exact Eve.one
 ·
  rw [if_neg (show ¬ v.f0=0 by omega),if_pos h]
  refine Eve.ite (fun h => absurd h (by omega)) (fun _ => Eve.ite (fun _ => ?_) (fun h2 => absurd h h2));have t2:=number_tells v.f1 1 (by omega);rw [n1 _ h1.1 (by omega)] at t2;refine Eve.bind t2 ?_;simp only [strOfNums_size,List.length_cons,List.length_nil];refine Eve.ite (fun _ => Eve.one.eq ?_) (fun h => absurd (by omega) h);rw [← str_app,h];rfl
 ·
  rw [if_neg (show ¬ v.f0=0 by omega),if_neg (show ¬ v.f0=1 by omega),if_pos h]
  refine Eve.ite (fun h => absurd h (by omega)) (fun _ => Eve.ite (fun h => absurd h (by omega)) (fun _ => Eve.ite (fun _ => ?_) (fun h2 => absurd h h2)));rw [show wrap64 (v.f1 + 4611686018427387904)=v.f1 + 4611686018427387904 from w64 (by omega) (by omega)];refine Eve.bind (number_tells _ 8 (by omega)) ?_;simp only [strOfNums_size,List.length_cons,List.length_nil,dig_length];refine Eve.ite (fun _ => Eve.one.eq ?_) (fun h => absurd (by omega) h);rw [← str_app,h];rfl
 rw [if_neg (show ¬ v.f0=0 by omega),if_neg (show ¬ v.f0=1 by omega),if_neg (show ¬ v.f0=2 by omega)];refine Eve.ite (fun h => absurd h (by omega)) (fun _ => Eve.ite (fun h => absurd h (by omega)) (fun _ => Eve.ite (fun h => absurd h (by omega)) (fun _ => ?_)));have t2:=number_tells (v.f2.size : Int) 2 (by omega)
 have e2 : dig (v.f2.size : Int) 2=[(v.f2.size : Int) / 256 % 256,(v.f2.size : Int) % 256]:=by
  show [shr .i64 (v.f2.size : Int) (8 * ((1 : Nat) : Int)) % 256,shr .i64 (v.f2.size : Int) (8 * ((0 : Nat) : Int)) % 256]=_;rw [shr_zero,shr_at _ 1 (by omega)];rfl
 rw [e2] at t2;refine Eve.bind t2 ?_;simp only [ByteArray.size_append,strOfNums_size,List.length_cons,List.length_nil];refine Eve.ite (fun _ => Eve.ite (fun _ => Eve.one.eq ?_) (fun h => absurd (by omega) h)) (fun h => absurd (by omega) h);rw [← str_app]
 conv => lhs;rw [← str_bytes v.f2]
 rw [← str_app,str_bytes];rfl
def fldB (f : IFld) : List Int:=((f.f0.size : Int) % 256) :: (bytesOf f.f0 ++ encB f.f1)
def docB (l : List IFld) : List Int:=l.flatMap fldB
theorem docB_cons (f : IFld) (l : List IFld) : docB (f :: l)=fldB f ++ docB l:=List.flatMap_cons ..
theorem doc_impl (l : List IFld) (hS : ∀ f ∈ l,Shape f.f1) (hn : ∀ f ∈ l,f.f0.size≤12) (hl : l.length≤3000) : Eve (fun k => Fh.f k l) (5,0,strOfNums (docB l)):=by
 simp only [Fh.f]
 have:=ev_loop0 l (fun k (acc : List Int) i => Fh.l0 k acc l (l.length : Int) i) (fun _ acc r => ((5 : Int),(0 : Int),strOfNums (acc ++ docB r))) (fun i acc => acc.length≤316 * i) (fun acc _ => by
  simp only [Fh.l0]
  exact Eve.ite (fun h => absurd h (by omega)) (fun _ => Eve.one.eq (by simp [docB]))) (fun i hi acc ha ih => by
  have h1:=hS l[i] (List.getElem_mem hi);have h2:=hn l[i] (List.getElem_mem hi);have h3:=enc_length h1;simp only [Fh.l0,rdF l i hi,Option.bind_some,List.length_append,List.length_cons,List.length_nil,wi (show i≤9223372036854775806 by omega)];refine Eve.ite (fun _ => ?_) (fun h => absurd (by omega) h);refine Eve.ite (fun _ => ?_) (fun h => absurd (by omega) h);refine Eve.ite (fun _ => ?_) (fun h => absurd (by omega) h);refine Eve.ite (fun _ => ?_) (fun h => absurd (by omega) h);refine Eve.ite (fun _ => ?_) (fun h => absurd (by omega) h);refine Eve.bind (put_tells _ h1 (by simp only [List.length_append,List.length_cons,List.length_nil,bytesOf_length];omega)) ?_;refine (ih _ (by simp only [List.length_append,List.length_cons,List.length_nil,bytesOf_length];omega)).eq ?_;rw [docB_cons]
  simp only [fldB,List.append_assoc,List.cons_append,List.nil_append]) [] (by simp)
 simpa using this
theorem dig_one (x : Int) : dig x 1=[x % 256]:=by
 show [shr .i64 x (8 * ((0 : Nat) : Int)) % 256]=[x % 256];rw [shr_zero]
theorem strs (l : List Int) : (strOfNums l).size=l.length:=by
 unfold strOfNums;rw [← data_length];simp
theorem doc_spec (l : List IFld) (hS : ∀ f ∈ l,Shape f.f1) (hn : ∀ f ∈ l,f.f0.size≤12) (hl : l.length≤3000) : Eve (fun k => Fg.f k l) (5,0,strOfNums (docB l)):=by
 simp only [Fg.f]
 have:=ev_loop0 l (fun k (acc : ByteArray) i => Fg.l0 k l acc i) (fun _ acc r => ((5 : Int),(0 : Int),acc ++ strOfNums (docB r))) (fun i acc => acc.size≤316 * i) (fun acc _ => by
  simp only [Fg.l0];refine Eve.ite (fun h => absurd h (by omega)) (fun _ => Eve.one.eq ?_);have : strOfNums (docB [])=ByteArray.empty:=rfl
  rw [this,ByteArray.append_empty]) (fun i hi acc ha ih => by
  have h1:=hS l[i] (List.getElem_mem hi);have h2:=hn l[i] (List.getElem_mem hi);have h3:=enc_length h1;have h4:=number_tells (l[i].f0.size : Int) 1 (by omega);rw [dig_one] at h4;have h5 : (strOfNums [(l[i].f0.size : Int) % 256]).size=1:=by rw [strs];rfl
  have h6 : (strOfNums (encB l[i].f1)).size=(encB l[i].f1).length:=strs _;simp only [Fg.l0,rdF l i hi,wi (show i≤9223372036854775806 by omega)];refine Eve.ite (fun _ => ?_) (fun h => absurd (by omega) h);refine Eve.ite (fun _ => ?_) (fun h => absurd (by omega) h);refine Eve.bind h4 ?_;refine Eve.ite (fun _ => ?_) (fun h => absurd (by omega) h);refine Eve.bind (enc_tells h1) ?_;refine Eve.ite (fun _ => ?_) (fun h => absurd (by rw [ByteArray.size_append];omega) h);refine Eve.ite (fun _ => ?_) (fun h => absurd (by rw [ByteArray.size_append,ByteArray.size_append];omega) h);refine (ih _ (by rw [ByteArray.size_append,ByteArray.size_append,ByteArray.size_append];omega)).eq ?_
  have e : strOfNums (fldB l[i])=strOfNums [(l[i].f0.size : Int) % 256] ++ l[i].f0 ++ strOfNums (encB l[i].f1):=by
   have : fldB l[i]=[(l[i].f0.size : Int) % 256] ++ bytesOf l[i].f0 ++ encB l[i].f1:=by simp [fldB]
   rw [this,str_app,str_app,str_bytes]
  rw [docB_cons,str_app,e,ByteArray.append_assoc]) ⟨#[]⟩ (by simp [ByteArray.size])
 refine this.eq ?_;have : (⟨#[]⟩ : ByteArray)=ByteArray.empty:=rfl;rw [this,ByteArray.empty_append]
theorem Eve.list {α β : Type} (g : Nat→α→Option β) (q : α→β) : ∀ l : List α,(∀ x ∈ l,Eve (fun k => g k x) (q x)) → ∃ K,∀ k,K≤k → ∀ x ∈ l,g k x=some (q x)
 | [],_ => ⟨0,fun _ _ x hx => by simp at hx⟩
 | y :: l,h => by
  obtain ⟨K,hK⟩:=Eve.list g q l (fun x hx => h x (by simp [hx]));obtain ⟨K2,hK2⟩:=h y (by simp);refine ⟨max K K2,fun k hk x hx => ?_⟩;rcases List.mem_cons.1 hx with rfl|hx
  ·
   exact hK2 k (by omega)
  exact hK k (by omega) x hx
theorem cf_tells (l : List IVal) (q : IVal→Bool) (e : Int) (hl : l.length≤4194304) (h : ∀ x ∈ l,Eve (fun k => F5.f k x.f0 x.f1 x.f2 (wrap64 (e - 1))) (q x)) :
  Eve (fun k => Fc.f k (F5.f k) l e) (l.any (fun x => !q x)):=by
 obtain ⟨K,hK⟩:=Eve.list (fun k (x : IVal) => F5.f k x.f0 x.f1 x.f2 (wrap64 (e - 1))) q l h;refine ⟨max K (l.length + 1),fun k hk => ?_⟩;have hG : ∀ x ∈ l,F5.f k x.f0 x.f1 x.f2 (wrap64 (e - 1))=some (q x):=hK k (by omega);show Fc.f k (F5.f k) l e=_;generalize F5.f k=G at hG;unfold Fc.f Fs.f
 have:=first_loop (fun k i => Fs.l0 G k l (l.length : Int) i e) l (fun x => !q x) (fun k i hi => by
  have hx:=hG l[i] (List.getElem_mem hi);simp only [Fs.l0];rw [if_pos (by omega),if_pos (by omega),if_pos (by omega),rdV l i hi,wi (show i≤9223372036854775806 by omega)];unfold F0b.f;rw [hx]
  rfl) (fun k => by simp only [Fs.l0];rw [if_neg (by omega)]) l.length k 0 (by omega) (by omega)
 rw [show ((0 : Nat) : Int)=0 from rfl,List.drop_zero] at this;rw [this];simp only [Option.bind_some,first_any]
theorem any_not (l : List IVal) (q : IVal→Bool) : (!(l.any (fun x => !q x)))=l.all q:=by
 induction l with
 | nil => rfl
 | cons x l ih => simp only [List.any_cons,List.all_cons,← ih];cases q x <;> simp
theorem inner_loop (l : List IFld) (hl : l.length≤1048576) (hn : ∀ f ∈ l,f.f0.size≤1048576) (ok : Bool) : Eve (fun k => F7.l0 k l ok [] l (l.length : Int) 0) (l.map (·.f1),ok && nms none l):=by
 have:=ev_loop0 l (fun k (s : Bool×List IVal) i => F7.l0 k l s.1 s.2 l (l.length : Int) i) (fun i s r => (s.2 ++ r.map (·.f1),s.1 && nms (if i=0 then none else some (l.getD (i - 1) z54).f0) r)) (fun i s => s.2.length=i) (fun s _ => by
  simp only [F7.l0]
  exact Eve.ite (fun h => absurd h (by omega)) (fun _ => Eve.one.eq (by simp [nms]))) (fun i hi s hI ih => by
  obtain ⟨b,out⟩:=s;simp only at hI;have hf:=hn l[i] (List.getElem_mem hi);have hnx:=fun b' => ih (b',out ++ [⟨l[i].f1.f0,l[i].f1.f1,l[i].f1.f2⟩]) (by simp;omega);simp only [Nat.add_one_ne_zero,if_false,Nat.add_sub_cancel,List.getD_eq_getElem?_getD,List.getElem?_eq_getElem hi,Option.getD_some] at hnx;have hout : ∀ r : List IFld,out ++ [(⟨l[i].f1.f0,l[i].f1.f1,l[i].f1.f2⟩ : IVal)] ++ r.map (·.f1)=out ++ (l[i] :: r).map (·.f1):=by intro r;simp
  simp only [F7.l0];refine Eve.ite (fun _ => ?_) (fun h => absurd (by omega) h);refine Eve.ite (fun _ => ?_) (fun h => absurd (by omega) h);refine Eve.ite (fun _ => ?_) (fun h => absurd (by omega) h);simp only [rdF l i hi,wi (show i≤9223372036854775806 by omega)];refine Eve.ite (fun hb => ?_) (fun hb => ?_)
  ·
   refine Eve.bind (nam_impl _ hf) ?_
   refine Eve.ite (fun h1 => ?_) (fun h1 => ?_)
   ·
    refine Eve.ite (fun h2 => ?_) (fun h2 => ?_)
    ·
     obtain rfl : i=0:=by omega
     refine Eve.ite (fun _ => (hnx true).eq ?_) (fun h => absurd (by omega) h);rw [hout,if_pos rfl];simp only [nms,h1,hb,Bool.true_and]
    have hw : wrap64 ((i : Int) - 1)=((i - 1 : Nat) : Int):=by rw [w64 (by omega) (by omega)];omega
    simp only [hw];refine Eve.ite (fun _ => ?_) (fun h => absurd (by omega) h);refine Eve.ite (fun _ => ?_) (fun h => absurd (by omega) h);refine Eve.ite (fun _ => ?_) (fun h => absurd (by omega) h);have hi1 : i - 1<l.length:=by omega
    have hz : ¬ i=0:=by omega
    simp only [rdF l (i - 1) hi1];refine (hnx _).eq ?_;rw [hout,if_neg hz,List.getD_eq_getElem?_getD,List.getElem?_eq_getElem hi1,Option.getD_some];simp only [nms,h1,hb,Bool.true_and]
   refine Eve.ite (fun _ => (hnx false).eq ?_) (fun h => absurd (by omega) h);rw [hout];simp only [nms,Bool.eq_false_iff.mpr h1,Bool.false_and,Bool.and_false]
  refine Eve.ite (fun _ => (hnx false).eq ?_) (fun h => absurd (by omega) h);rw [hout]
  simp only [Bool.eq_false_iff.mpr hb,Bool.false_and]) (ok,[]) rfl
 exact this.eq (by simp)
theorem inner_four (v : IVal) (h4 : v.f0=4) (hs : v.f2.size≤1048576) : ∃ l ok,Eve (fun k => F7.f k v.f0 v.f1 v.f2) (l,ok)∧l.length≤1048576∧(∀ x ∈ l,x.f2.size≤1048576) ∧
  ((itS v.f2.size v.f2=some l∧ok=true)∨(itS v.f2.size v.f2=none∧(ok=false ∨ ∃ x ∈ l,Bad x))):=by
 simp only [F7.f,Fi.f,if_pos h4]
 cases hi : itS v.f2.size v.f2 with
 | some l =>
  obtain ⟨h1,h2⟩:=its_size _ _ l hi hs;exact ⟨l,true,(Eve.bind (items_some _ v.f2 [] l hi (by simp;omega)) Eve.one),by omega,h2,.inl ⟨rfl,rfl⟩⟩
 | none =>
  obtain ⟨l,ok,hl,hb,h1,h2⟩:=items_none _ v.f2 [] (Nat.le_refl _) hi (by simp;omega);exact ⟨l,ok,(Eve.bind hl Eve.one),by omega,h2,.inr ⟨rfl,hb⟩⟩
theorem inner_five (v : IVal) (h5 : v.f0=5) (hs : v.f2.size≤1048576) : ∃ l ok,Eve (fun k => F7.f k v.f0 v.f1 v.f2) (l,ok)∧l.length≤1048576∧(∀ x ∈ l,x.f2.size≤1048576) ∧
  ((∃ fs,fdS v.f2.size v.f2=some fs∧l=fs.map (·.f1)∧ok=nms none fs)∨(fdS v.f2.size v.f2=none∧(ok=false ∨ ∃ x ∈ l,Bad x))):=by
 have h4 : ¬ v.f0=4:=by omega
 simp only [F7.f,F6.f,if_neg h4]
 cases hi : fdS v.f2.size v.f2 with
 | some fs =>
  obtain ⟨h1,h2⟩:=fds_size _ _ fs hi hs;refine ⟨fs.map (·.f1),nms none fs,?_,by simp;omega,?_,.inl ⟨fs,rfl,rfl,rfl⟩⟩
  ·
   refine Eve.bind (fields_some _ v.f2 [] fs hi (by simp;omega)) ?_
   exact (inner_loop fs (by omega) (fun f hf => (h2 f hf).1) true).eq (by simp)
  intro x hx;obtain ⟨f,hf,rfl⟩:=List.mem_map.1 hx;exact (h2 f hf).2
 | none =>
  obtain ⟨fs,ok,hl,hb,h1,h2⟩:=fields_none _ v.f2 [] (Nat.le_refl _) hi (by simp;omega);refine ⟨fs.map (·.f1),ok && nms none fs,?_,by simp;omega,?_,.inr ⟨rfl,?_⟩⟩
  ·
   refine Eve.bind hl ?_
   exact inner_loop fs (by omega) (fun f hf => (h2 f hf).1) ok
  ·
   intro x hx
   obtain ⟨f,hf,rfl⟩:=List.mem_map.1 hx;exact (h2 f hf).2
  rcases hb with hb|⟨f,hf,hb⟩
  ·
   left;rw [hb];rfl
  right;exact ⟨f.f1,List.mem_map.2 ⟨f,hf,rfl⟩,hb⟩
theorem all_bad (l : List IVal) (q : IVal→Bool) (x : IVal) (hx : x ∈ l) (h : q x=false) : l.all q=false:=by
 rw [List.all_eq_false];exact ⟨x,hx,by simp [h]⟩
theorem nest_tells (v : IVal) (d : Nat) (l : List IVal) (ok : Bool) (hd : d≤1000) (h45 : v.f0=4∨v.f0=5) (hin : Eve (fun k => F7.f k v.f0 v.f1 v.f2) (l,ok)) (hl : l.length≤1048576)
  (hq : ∀ x ∈ l,Eve (fun k => F5.f k x.f0 x.f1 x.f2 (d : Int)) (rightV d x)) :
  Eve (fun k => F5.f k v.f0 v.f1 v.f2 ((d + 1 : Nat) : Int)) (decide (v.f1=0) && (decide ((v.f2.size : Int)≤300) && (ok && l.all (rightV d)))):=by
 have hj : Eve (fun k => F5.j0 k true v.f0 v.f1 v.f2 ((d + 1 : Nat) : Int)) (decide (v.f1=0) && (decide ((v.f2.size : Int)≤300) && (ok && l.all (rightV d)))):=by
  refine Eve.succ ?_;simp only [F5.j0,if_true];refine Eve.bind hin ?_;refine Eve.ite (fun h1 => ?_) (fun h1 => Eve.one.eq (by simp [h1]));refine Eve.ite (fun h2 => ?_) (fun h2 => Eve.one.eq (by simp [h2]));refine Eve.ite (fun _ => ?_) (fun h => absurd (by omega) h);refine Eve.ite (fun h3 => ?_) (fun h3 => Eve.one.eq (by rw [show ok=false from Bool.eq_false_iff.mpr h3];simp));have hc:=cf_tells l (rightV d) ((d + 1 : Nat) : Int) (by omega) (fun x hx => by rw [dn d hd];exact hq x hx);refine Eve.bind hc (Eve.one.eq ?_);rw [any_not,show ok=true from h3];simp [h1,h2]
 refine Eve.succ ?_;simp only [F5.f];rcases h45 with h|h
 ·
  simp only [h] at hj ⊢
  simp only [show ¬ (4 : Int)=0 by omega,show ¬ (4 : Int)=1 by omega,show ¬ (4 : Int)=2 by omega,show ¬ (4 : Int)=3 by omega,if_false,if_true,beq_self_eq_true];exact hj
 simp only [h] at hj ⊢;simp only [show ¬ (5 : Int)=0 by omega,show ¬ (5 : Int)=1 by omega,show ¬ (5 : Int)=2 by omega,show ¬ (5 : Int)=3 by omega,show ¬ (5 : Int)=4 by omega,if_false,beq_self_eq_true];exact hj
theorem nest_zero (v : IVal) (l : List IVal) (ok : Bool) (h45 : v.f0=4∨v.f0=5) (hin : Eve (fun k => F7.f k v.f0 v.f1 v.f2) (l,ok)) : Eve (fun k => F5.f k v.f0 v.f1 v.f2 ((0 : Nat) : Int)) false:=by
 have hj : Eve (fun k => F5.j0 k true v.f0 v.f1 v.f2 ((0 : Nat) : Int)) false:=by
  refine Eve.succ ?_;simp only [F5.j0,if_true];refine Eve.bind hin ?_;refine Eve.ite (fun _ => ?_) (fun _ => Eve.one);refine Eve.ite (fun _ => ?_) (fun _ => Eve.one);exact Eve.ite (fun h => absurd h (by omega)) (fun _ => Eve.one)
 refine Eve.succ ?_;simp only [F5.f];rcases h45 with h|h
 ·
  simp only [h] at hj ⊢
  simp only [show ¬ (4 : Int)=0 by omega,show ¬ (4 : Int)=1 by omega,show ¬ (4 : Int)=2 by omega,show ¬ (4 : Int)=3 by omega,if_false,if_true,beq_self_eq_true];exact hj
 simp only [h] at hj ⊢;simp only [show ¬ (5 : Int)=0 by omega,show ¬ (5 : Int)=1 by omega,show ¬ (5 : Int)=2 by omega,show ¬ (5 : Int)=3 by omega,show ¬ (5 : Int)=4 by omega,if_false,beq_self_eq_true];exact hj
theorem right_impl : ∀ (d : Nat) (v : IVal),d≤1000→v.f2.size≤1048576→Eve (fun k => F5.f k v.f0 v.f1 v.f2 (d : Int)) (rightV d v):=by
 intro d
 induction d with
 | zero =>
  intro v hd hs
  by_cases h4 : v.f0=4
  ·
   obtain ⟨l,ok,hin,_⟩:=inner_four v h4 hs
   refine (nest_zero v l ok (.inl h4) hin).eq ?_;show false=flat v;unfold flat;rw [if_neg (by omega),if_neg (by omega),if_neg (by omega),if_neg (by omega)]
  by_cases h5 : v.f0=5
  ·
   obtain ⟨l,ok,hin,_⟩:=inner_five v h5 hs
   refine (nest_zero v l ok (.inr h5) hin).eq ?_;show false=flat v;unfold flat;rw [if_neg (by omega),if_neg (by omega),if_neg (by omega),if_neg (by omega)]
  exact impl_flat v _ h4 h5
 | succ d ih =>
  intro v hd hs
  by_cases h4 : v.f0=4
  ·
   obtain ⟨l,ok,hin,hl,hsz,hc⟩:=inner_four v h4 hs
   refine (nest_tells v d l ok (by omega) (.inl h4) hin hl (fun x hx => ih x (by omega) (hsz x hx))).eq ?_;unfold rightV;rw [if_pos h4];rcases hc with ⟨hi,rfl⟩|⟨hi,hb⟩
   ·
    rw [hi];simp
   rw [hi];rcases hb with rfl|⟨x,hx,hb⟩
   ·
    simp
   rw [all_bad l (rightV d) x hx (bad_right x hb d)];simp
  by_cases h5 : v.f0=5
  ·
   obtain ⟨l,ok,hin,hl,hsz,hc⟩:=inner_five v h5 hs
   refine (nest_tells v d l ok (by omega) (.inr h5) hin hl (fun x hx => ih x (by omega) (hsz x hx))).eq ?_;unfold rightV;rw [if_neg h4,if_pos h5];rcases hc with ⟨fs,hi,rfl,rfl⟩|⟨hi,hb⟩
   ·
    rw [hi,List.all_map];rfl
   rw [hi];rcases hb with rfl|⟨x,hx,hb⟩
   ·
    simp
   rw [all_bad l (rightV d) x hx (bad_right x hb d)];simp
  unfold rightV;rw [if_neg h4,if_neg h5];exact impl_flat v _ h4 h5
theorem right_small (d : Nat) (v : IVal) (h : 300<v.f2.size) : rightV d v=false:=by
 have he : emB v.f2=false:=by
  have : ¬ v.f2.toList=([] : List UInt8):=fun e => by have:=(emp _).1 e;omega
  simpa [emB] using this
 have hz : decide ((v.f2.size : Int)≤300)=false:=by simp;omega
 have hf : flat v=false:=by
  unfold flat;rw [he,hz]
  repeat' split
  all_goals simp
 cases d with
 | zero => exact hf
 | succ d =>
  unfold rightV;rw [hz,hf]
  repeat' split
  all_goals simp
theorem ok_impl (v : IVal) (hs : v.f2.size≤1048576) : Eve (fun k => F09.f k v.f0 v.f1 v.f2) (rightV 5 v):=by
 simp only [F09.f];exact Eve.bind (right_impl 5 v (by omega) hs) Eve.one
theorem ok_spec (v : IVal) (hs : v.f2.size≤1048576) : Eve (fun k => F07.f k v.f0 v.f1 v.f2) (rightV 5 v):=by
 simp only [F07.f];refine Eve.ite (fun _ => Eve.bind (right_spec 5 v (by omega) hs) Eve.one) (fun h => Eve.one.eq ?_);rw [right_small 5 v (by omega)]
end Go.Proofs.Ytaoihmompioncaa.Pure
end
section
namespace Go.Proofs.Ytaoihmompioncaa.Pure
open Go.RowKit Go.Proofs.Ytaoihmompioncaa.Q Go.Proofs.YtaoihmompioncaaW.PrintWords Go.Proofs.YtaoihmompioncaaW.PrintLast Go.Proofs.YtaoihmompioncaaW.Pl
theorem szStringS_tells (l : List ByteArray) (hl : l.length≤9223372036854775807) (hs : ∀ x ∈ l,x.size≤9223372036854775807) {left : Int} (h0 : 0≤left) (h1 : left≤1048576) {k : Nat} (hk : l.length<k) :
  Fq.f k l left=some (if left - l.length<0 then -1 else less ByteArray.size l (left - l.length)):=by
 unfold Fq.f;rw [w64 (by omega) (by omega)]
 by_cases h : left - l.length<0
 ·
  rw [if_pos h,if_pos h]
 rw [if_neg h,if_neg h]
 have:=less_loop (fun k l' i => Fq.l0 k l l' i) l ByteArray.size (fun k i l' hi a b => by
  have hsz:=hs l[i] (List.getElem_mem hi);simp only [Fq.l0];rw [if_pos (by omega),if_pos (by omega),rdOf_at _ _ _ hi,w64 (by omega) (by omega),w64 (i:=(i : Int) + 1) (by omega) (by omega)]
  by_cases h2 : l' - (l[i].size : Int)<0
  ·
   rw [if_pos h2,if_pos h2]
  rw [if_neg h2,if_neg h2];rfl) (fun k l' => by simp only [Fq.l0];rw [if_neg (by omega)]) l.length k 0 (left - l.length) (by omega) hk (by omega) (by omega)
 simpa using this
theorem toStringS_tells (l : List ByteArray) (hl : l.length≤1048576) {k : Nat} (hk : l.length<k) : Fe.f k l=some l:=by
 unfold Fe.f;rw [if_pos (by omega),if_pos (by omega)]
 have:=map_loop0 (fun k ys i => Fe.l0 k l ys i) l id (fun k ys i hi hy => by
  simp only [Fe.l0];rw [if_pos (by omega),if_pos (by omega),if_pos (by omega),rdOf_at _ _ _ hi,w64 (by omega) (by omega)]
  rfl) (fun k ys hy => by simp only [Fe.l0];rw [if_neg (by omega)]) hk (⟨#[]⟩ : ByteArray)
 simpa using this
theorem eqStringS_self (l : List ByteArray) (hl : l.length≤1048576) {k : Nat} (hk : l.length<k) : Fp.f k l l=some true:=by
 unfold Fp.f;rw [if_pos rfl]
 have:=all2_loop (fun k i => Fp.l0 k l l i) l l rfl (fun a b => decide (a=b)) (fun k i hi => by
  simp only [Fp.l0];rw [if_pos (by omega),if_pos (by omega),if_pos (by omega),if_pos trivial,w64 (by omega) (by omega),if_pos (by simp)]
  rfl) (fun k => by simp only [Fp.l0];rw [if_neg (by omega)]) l.length k 0 (by omega) hk
 rw [show ((0 : Nat) : Int)=0 from rfl,List.drop_zero,all2_refl _ (by simp)] at this;exact this
end Go.Proofs.Ytaoihmompioncaa.Pure
end
section
namespace Go.Proofs.Ytaoihmompioncaa.Pure
open Go Go.RowKit Go.Proofs.Ytaoihmompioncaa.Q Go.Proofs.YtaoihmompioncaaW.PrintWords Go.Proofs.YtaoihmompioncaaW.PrintLast Go.Proofs.YtaoihmompioncaaW.PrintMore Go.Proofs.YtaoihmompioncaaW.Pl
theorem rdSt (l : List ByteArray) (i : Nat) (h : i<l.length) : rdOf ByteArray.empty l (i : Int)=l[i]:=rdOf_at _ l i h
def has (keep : List ByteArray) (a : ByteArray) : Bool:=keep.any (fun y => y.toList == a.toList)
theorem has_tells (keep : List ByteArray) (a : ByteArray) (h : keep.length≤1048576) : Eve (fun k => F04.f k keep a) (has keep a):=by
 simp only [F04.f,Fv.f];refine Eve.bind (v:=first (fun y => decide (a.toList=y.toList)) keep 0) ?_ (Eve.one.eq ?_)
 ·
  refine ev_loop0 keep (fun k (_ : Unit) i => Fv.l0 k keep a (keep.length : Int) i) (fun i _ r => first (fun y => decide (a.toList=y.toList)) r i) (fun _ _ => True) (fun _ _ => ?_) (fun i hi s _ ih => ?_) () trivial
  ·
   simp only [Fv.l0]
   exact Eve.ite (fun h => absurd h (by omega)) (fun _ => Eve.one)
  simp only [Fv.l0];refine Eve.ite (fun _ => ?_) (fun h => absurd (by omega) h);refine Eve.ite (fun _ => ?_) (fun h => absurd (by omega) h);refine Eve.ite (fun _ => ?_) (fun h => absurd (by omega) h);simp only [rdSt _ _ hi,wi (show i≤9223372036854775806 by omega)];refine Eve.ite (fun h => Eve.one.eq ?_) (fun h => (ih () trivial).eq ?_)
  ·
   simp [first,h]
  simp [first,h]
 rw [first_any];unfold has
 congr 1
 funext y
 by_cases e : a.toList=y.toList
 ·
  simp [e]
 have e2 : ¬ y.toList=a.toList:=fun h => e h.symm;simp [e,e2]
theorem short_tells (keep : List ByteArray) (h : keep.length≤1048576) (hs : ∀ x ∈ keep,x.size≤1048576) : Eve (fun k => Fu.f k keep) (keep.all nam):=by
 simp only [Fu.f,F0e.f,Ft.f];refine Eve.bind (v:=decide (first (fun y => !nam y) keep 0 ≥ 0)) (Eve.bind (v:=first (fun y => !nam y) keep 0) ?_ Eve.one) (Eve.one.eq ?_)
 ·
  refine ev_loop0 keep (fun k (_ : Unit) i => Ft.l0 k keep (keep.length : Int) i) (fun i _ r => first (fun y => !nam y) r i) (fun _ _ => True) (fun _ _ => ?_) (fun i hi s _ ih => ?_) () trivial
  ·
   simp only [Ft.l0]
   exact Eve.ite (fun h => absurd h (by omega)) (fun _ => Eve.one)
  simp only [Ft.l0];refine Eve.ite (fun _ => ?_) (fun h => absurd (by omega) h);refine Eve.ite (fun _ => ?_) (fun h => absurd (by omega) h);refine Eve.ite (fun _ => ?_) (fun h => absurd (by omega) h);simp only [rdSt _ _ hi,wi (show i≤9223372036854775806 by omega),F0a.f];refine Eve.bind (v:=!nam keep[i]) (Eve.bind (nam_impl _ (hs _ (List.getElem_mem hi))) Eve.one) ?_;refine Eve.ite (fun h => Eve.one.eq ?_) (fun h => (ih () trivial).eq ?_)
  ·
   simp [first,h]
  simp [first,h]
 rw [first_any]
 induction keep with
 | nil => rfl
 | cons x xs ih =>
  rw [List.any_cons,List.all_cons,Bool.not_or,Bool.not_not]
  congr 1
  exact ih (by simp at h;omega) (fun y hy => hs y (List.mem_cons_of_mem _ hy))
def stays (keep : List ByteArray) (f : IFld) : Bool:=(f.f0.toList == [105,100]) || has keep f.f0
theorem cut_stays (keep : List ByteArray) (f : IFld) : (!F3.cut keep f)=stays keep f:=by
 unfold F3.cut stays has;have : (⟨#[105,100]⟩ : ByteArray).toList=[105,100]:=by simp
 rw [this,Bool.not_and,Bool.not_not,Bool.not_not]
structure Flds (L : List IFld) : Prop where
 shape : ∀ f ∈ L,Shape f.f1
 name : ∀ f ∈ L,f.f0.size≤12
 len : L.length≤3000
theorem Flds.sub {L : List IFld} (h : Flds L) (p : IFld→Bool) : Flds (L.filter p) :=
 ⟨fun f hf => h.shape f (List.mem_filter.1 hf).1,fun f hf => h.name f (List.mem_filter.1 hf).1,Nat.le_trans (List.length_filter_le _ _) h.len⟩
def kept (keep : List ByteArray) (L : List IFld) : Int×Int×ByteArray:=(5,0,strOfNums (docB (L.filter (stays keep))))
theorem keep_spec (keep : List ByteArray) (L : List IFld) (hk : keep.length≤1048576) (hL : Flds L) : Eve (fun k => F9.l0 k keep L ([] : List IFld) 0) (kept keep L):=by
 have:=ev_loop0 L (fun k (out : List IFld) i => F9.l0 k keep L out i) (fun _ out r => ((5 : Int),(0 : Int),strOfNums (docB (out ++ r.filter (stays keep))))) (fun i out => out.length≤i ∧ ∀ f ∈ out,f ∈ L) (fun out ho => by
  simp only [F9.l0];refine Eve.ite (fun h => absurd h (by omega)) (fun _ => ?_);have hd:=doc_spec out (fun f hf => hL.shape f (ho.2 f hf)) (fun f hf => hL.name f (ho.2 f hf)) (Nat.le_trans ho.1 hL.len)
  exact Eve.bind hd (Eve.one.eq (by simp))) (fun i hi out ho ih => by
  simp only [F9.l0,rdF L i hi];refine Eve.ite (fun _ => ?_) (fun h => absurd (by omega) h);refine Eve.ite (fun _ => ?_) (fun h => absurd (by omega) h);have hi2:=hL.len
  have hin:=ev_loop0 keep (fun k (b : Bool) j => F9.l1 k keep L out (i : Int) b j) (fun _ b r => ((5 : Int),(0 : Int),strOfNums (docB ((if (b || r.any (fun y => y.toList == L[i].f0.toList))=true then out ++ [L[i]] else out) ++ (L.drop (i + 1)).filter (stays keep))))) (fun _ _ => True) (fun b _ => by
   simp only [F9.l1,rdF L i hi,wi (show i≤9223372036854775806 by omega)];refine Eve.ite (fun h => absurd h (by omega)) (fun _ => ?_);refine Eve.ite (fun h => ?_) (fun h => ?_)
   ·
    refine Eve.ite (fun _ => ?_) (fun h => absurd (by omega) h)
    refine Eve.ite (fun _ => ?_) (fun h => absurd (by omega) h);refine Eve.ite (fun _ => ?_) (fun h => absurd (by omega) h);refine (ih (out ++ [L[i]]) ⟨by rw [List.length_append,List.length_singleton];omega,fun f hf => ?_⟩).eq ?_
    ·
     rcases List.mem_append.1 hf with hf|hf
     ·
      exact ho.2 f hf
     rw [List.mem_singleton.1 hf];exact List.getElem_mem hi
    simp [h]
   ·
    refine (ih out ⟨by omega,ho.2⟩).eq ?_
    simp [h]) (fun j hj b _ ihj => by
   simp only [F9.l1,rdF L i hi,rdSt _ _ hj,wi (show j≤9223372036854775806 by omega)];refine Eve.ite (fun _ => ?_) (fun h => absurd (by omega) h);refine Eve.ite (fun h => ?_) (fun h => ?_)
   ·
    refine (ihj true trivial).eq ?_
    rw [h];simp
   refine Eve.ite (fun _ => ?_) (fun h => absurd (by omega) h);refine Eve.ite (fun _ => ?_) (fun h => absurd (by omega) h);refine Eve.ite (fun _ => ?_) (fun h => absurd (by omega) h);refine (ihj (keep[j].toList == L[i].f0.toList) trivial).eq ?_;have hb : b=false:=by simpa using h
   rw [hb,List.any_cons,Bool.false_or]) (L[i].f0.toList == [105,100]) trivial
  refine hin.eq ?_
  have e9 : (L[i] :: L.drop (i + 1)).filter (stays keep)=(if stays keep L[i]=true then [L[i]] else []) ++ (L.drop (i + 1)).filter (stays keep):=by
   rw [List.filter_cons]
   split <;> rfl
  rw [e9];have e8 : stays keep L[i]=((L[i].f0.toList == [105,100]) || keep.any (fun y => y.toList == L[i].f0.toList)):=rfl;rw [e8];generalize ((L[i].f0.toList == [105,100]) || keep.any (fun y => y.toList == L[i].f0.toList))=b
  cases b <;> simp) [] ⟨Nat.le_refl _,by simp⟩
 refine this.eq ?_;simp [kept]
theorem keep_impl (keep : List ByteArray) (L : List IFld) (hk : keep.length≤1048576) (hL : Flds L) : Eve (fun k => if F3.fits k keep L=true then Fh.f k (L.filter (fun e => !F3.cut keep e)) else none) (kept keep L):=by
 obtain ⟨K,hK⟩:=Eve.list (fun k (f : IFld) => F04.f k keep f.f0) (fun f => has keep f.f0) L (fun f _ => has_tells keep f.f0 hk);have hd:=doc_impl (L.filter (stays keep)) (hL.sub _).shape (hL.sub _).name (hL.sub _).len;obtain ⟨K2,hd⟩:=hd;refine ⟨max K K2,fun k hk2 => ?_⟩
 have hf : F3.fits k keep L=true:=by
  unfold F3.fits;rw [Bool.and_eq_true,List.all_eq_true,decide_eq_true_eq];refine ⟨by have:=hL.len;omega,fun f hf => ?_⟩;rw [hK k (by omega) f hf];exact beq_iff_eq.2 rfl
 have he : (fun e => !F3.cut keep e)=stays keep:=by funext e;exact cut_stays keep e
 show (if F3.fits k keep L=true then _ else _)=_;rw [if_pos hf,he];exact hd k (by omega)
theorem right_flds {v : IVal} (h : rightV 5 v=true) (h5 : v.f0=5) (hs : v.f2.size≤1048576) : ∃ L,fdS v.f2.size v.f2=some L∧Flds L:=by
 obtain ⟨e,l,_,hi,hn,hr⟩:=right_five h h5;refine ⟨l,hi,fun f hf => right_shape e f.f1 (List.all_eq_true.1 hr f hf),?_,?_⟩
 ·
  have : ∀ (p : Option ByteArray) (l : List IFld),nms p l=true → ∀ f ∈ l,f.f0.size≤12:=by
   intro p l
   induction l generalizing p with
   | nil => intro _ f hf;simp at hf
   | cons x xs ih =>
    intro hn f hf;simp only [nms,Bool.and_eq_true] at hn;rcases List.mem_cons.1 hf with rfl|hf
    ·
     have:=hn.1
     simp only [nam,Bool.and_eq_true,decide_eq_true_eq] at this
     omega
    exact ih _ hn.2.2 f hf
  exact this none l hn
 have h1:=(fds_size _ _ l hi hs).1
 have h2 : v.f2.size≤300:=by
  rcases Nat.lt_or_ge 300 v.f2.size with h3|h3
  ·
   rw [right_small 5 v h3] at h;simp at h
  exact h3
 omega
def keepA (v : IVal) (keep : List ByteArray) : Int×Int×ByteArray×Int :=
 if (keep.length : Int) > 4096 then (0,0,⟨#[]⟩,2) else if rightV 5 v=true∧v.f0=5 then (if keep.all nam=true then
  (if (keep.length : Int)=0 then (v.f0,v.f1,v.f2,0) else ((kept keep ((fdS v.f2.size v.f2).getD [])).1,(kept keep ((fdS v.f2.size v.f2).getD [])).2.1,(kept keep ((fdS v.f2.size v.f2).getD [])).2.2,0)) else (0,0,⟨#[]⟩,11)) else (0,0,⟨#[]⟩,1)
theorem names_loop (keep : List ByteArray) (hk : keep.length≤1048576) (hs : ∀ x ∈ keep,x.size≤1048576) (a b : Int) (c : ByteArray) (V : Int×Int×ByteArray) (hV : Eve (fun k => F9.f k a b c keep) V) :
  Eve (fun k => Fj.l0 k keep 0 a b c) (if keep.all nam=true then (V.1,V.2.1,V.2.2,0) else (0,0,⟨#[]⟩,11)):=by
 have:=ev_loop0 keep (fun k (_ : Unit) i => Fj.l0 k keep i a b c) (fun _ _ r => if r.all nam=true then (V.1,V.2.1,V.2.2,(0 : Int)) else ((0 : Int),(0 : Int),(⟨#[]⟩ : ByteArray),(11 : Int))) (fun _ _ => True) (fun _ _ => by
  simp only [Fj.l0];refine Eve.ite (fun h => absurd h (by omega)) (fun _ => ?_)
  exact Eve.bind hV (Eve.one.eq (by simp))) (fun i hi s _ ih => by
  simp only [Fj.l0,rdSt _ _ hi,wi (show i≤9223372036854775806 by omega)];refine Eve.ite (fun _ => ?_) (fun h => absurd (by omega) h);refine Eve.ite (fun _ => ?_) (fun h => absurd (by omega) h);refine Eve.bind (nam_spec _ (hs _ (List.getElem_mem hi))) ?_;refine Eve.ite (fun h => (ih () trivial).eq ?_) (fun h => Eve.one.eq ?_)
  ·
   rw [List.all_cons,h,Bool.true_and]
  rw [List.all_cons];have h' : nam keep[i]=false:=by simpa using h
  rw [h',Bool.false_and];simp) () trivial
 exact this
theorem keepA_spec (v : IVal) (keep : List ByteArray) (hv : v.f2.size≤1048576) (hk : keep.length≤1048576) (hs : ∀ x ∈ keep,x.size≤1048576) : Eve (fun k => Fj.f k v.f0 v.f1 v.f2 keep) (keepA v keep):=by
 simp only [Fj.f,F08.f];unfold keepA;refine Eve.ite (fun h => Eve.one.eq (by rw [if_pos h])) (fun h => ?_);rw [if_neg h]
 refine Eve.bind (v:=rightV 5 v && (v.f0 == 5)) (Eve.bind (ok_spec v hv) (Eve.ite (fun h => Eve.one.eq (by rw [h,Bool.true_and])) (fun h => Eve.one.eq (by
  have h' : rightV 5 v=false:=by simpa using h
  rw [h',Bool.false_and])))) ?_
 refine Eve.ite (fun h => ?_) (fun h => ?_)
 ·
  rw [Bool.and_eq_true,beq_iff_eq] at h
  rw [if_pos h];obtain ⟨L,hL,hF⟩:=right_flds h.1 h.2 hv
  have hV : Eve (fun k => F9.f k v.f0 v.f1 v.f2 keep) (if (keep.length : Int)=0 then (v.f0,v.f1,v.f2) else kept keep L):=by
   simp only [F9.f];refine Eve.ite (fun h => Eve.one.eq (by rw [if_pos h])) (fun h => ?_);rw [if_neg h];have hit:=fields_spec _ v.f2 [] (Nat.le_refl _) hv (by simp;omega);simp only [Ff.f];refine Eve.bind hit ?_;rw [hL];exact (keep_spec keep L hk hF).eq rfl
  refine (names_loop keep hk hs _ _ _ _ hV).eq ?_;rw [hL,Option.getD_some]
  split
  ·
   split <;> rfl
  rfl
 rw [Bool.and_eq_true,beq_iff_eq] at h;rw [if_neg h];exact Eve.one
theorem keepA_impl (v : IVal) (keep : List ByteArray) (hv : v.f2.size≤1048576) (hk : keep.length≤1048576) (hs : ∀ x ∈ keep,x.size≤1048576) : Eve (fun k => F00.f k v.f0 v.f1 v.f2 keep) (keepA v keep):=by
 simp only [F00.f,F06.f];unfold keepA;refine Eve.ite (fun h => Eve.one.eq (by rw [if_pos h])) (fun h => ?_);rw [if_neg h];refine Eve.bind (v:=rightV 5 v && (v.f0 == 5)) (Eve.ite (fun h5 => Eve.bind (ok_impl v hv) (Eve.one.eq (by rw [h5];simp))) (fun h5 => Eve.one.eq (by simp [h5]))) ?_;refine Eve.ite (fun h => ?_) (fun h => ?_)
 ·
  rw [Bool.and_eq_true,beq_iff_eq] at h
  rw [if_pos h];obtain ⟨L,hL,hF⟩:=right_flds h.1 h.2 hv;refine Eve.bind (short_tells keep hk hs) ?_;refine Eve.ite (fun hn => ?_) (fun hn => Eve.one.eq (by rw [if_neg hn]));rw [if_pos hn]
  have hV : Eve (fun k => F3.f k v.f0 v.f1 v.f2 keep) (if (keep.length : Int)=0 then (v.f0,v.f1,v.f2) else kept keep L):=by
   simp only [F3.f];refine Eve.ite (fun h => Eve.one.eq (by rw [if_pos h])) (fun h => ?_);rw [if_neg h];have hit:=fields_some _ v.f2 [] L hL (by simp;omega);simp only [F6.f];refine Eve.bind hit ?_;exact (keep_impl keep L hk hF).eq rfl
  refine Eve.bind hV (Eve.one.eq ?_);rw [hL,Option.getD_some]
  split <;> rfl
 rw [Bool.and_eq_true,beq_iff_eq] at h;rw [if_neg h];exact Eve.one
theorem FnExactKeepFields : Fa.Pure:=by
 rintro x keep ⟨_,_,hx⟩ ⟨hl,hg⟩;refine Eve.get (g:=fun k => Fa.f k x.f0 x.f1 x.f2 keep) ?_;simp only [Fa.f,toValue_tells,szValue_tells x hx (left:=1048576) (by omega) (by omega),Option.bind_some]
 by_cases h : (1048576 : Int) - x.f2.size<0
 ·
  simp only [if_pos h];exact Eve.ite (fun _ => Eve.one) (fun h => absurd h (by omega))
 simp only [if_neg h];have hs : (iv x).f2.size≤1048576:=by show x.f2.size≤_;omega
 have hsz:=Eve.of (fun k (hk : keep.length<k) => szStringS_tells keep hl hg (left:=1048576 - x.f2.size) (by omega) (by omega) hk);refine Eve.bind hsz ?_
 by_cases h2 : (1048576 : Int) - x.f2.size - keep.length<0
 ·
  rw [if_pos h2];exact Eve.ite (fun _ => Eve.one) (fun h => absurd h (by omega))
 rw [if_neg h2,less_is _ _ _ (by omega)]
 by_cases h3 : (1048576 : Int) - x.f2.size - keep.length<total ByteArray.size keep
 ·
  rw [if_pos h3];exact Eve.ite (fun _ => Eve.one) (fun h => absurd h (by omega))
 rw [if_neg h3];refine Eve.ite (fun h => absurd h (by omega)) (fun _ => ?_);have hto : Eve (fun k => Fe.f k keep) keep:=Eve.of (n:=keep.length) (fun k (hk : keep.length<k) => toStringS_tells keep (by omega) hk);have heq : Eve (fun k => Fp.f k keep keep) true:=Eve.of (n:=keep.length) (fun k (hk : keep.length<k) => eqStringS_self keep (by omega) hk)
 have hks : ∀ y ∈ keep,y.size≤1048576:=fun y hy => by
  have:=total_le ByteArray.size keep y hy
  omega
 have h1:=keepA_spec (iv x) keep hs (by omega) hks;have h4:=keepA_impl (iv x) keep hs (by omega) hks;generalize keepA (iv x) keep=a at h1 h4;obtain ⟨a0,a1,a2,c⟩:=a;refine Eve.bind hto ?_;refine Eve.bind h1 ?_;refine Eve.bind hto ?_;refine Eve.bind h4 ?_
 have hv : F03.f a0 a1 a2 a0 a1 a2=some true:=by
  unfold F03.f;rw [if_pos rfl,if_pos rfl]
  first|rfl|rw [if_pos rfl]
 simp only [hv,Option.bind_some,if_true,bne_self_eq_false];refine Eve.succ ?_;simp only [Fa.j0,Bool.false_eq_true,if_false];refine Eve.bind hto ?_;refine Eve.bind heq ?_;simp only [if_true];exact Eve.one
end Go.Proofs.Ytaoihmompioncaa.Pure
end
section
namespace Go.Proofs.Ytaoihmompioncaa.fnExactKeepFields
open Go.ChangeShapes Go.WideShapes Go.ChangeAt Go.RowKit Go.Proofs.YtaoihmompioncaaW.PrintWords Go.Proofs.YtaoihmompioncaaW.PrintOpen Go.Proofs.Ytaoihmompioncaa.Q
open Go.ChangeMaps (open_string shut_string)
set_option linter.unusedVariables false
theorem own : ownKnob Try.prog.godebug=none:=by kernel_rfl
theorem laidOut : laidOutB Try.prog=true:=by kernel_rfl
set_option maxRecDepth 100000 in
theorem lifted (os : Os) (started : os.Started) (H : Type) (enc : TypeId×Value→H) :
  ReturnsInHanded {} Try.checked os 4 .any (Rows.fnExactKeepFieldsSpec.pre6 enc Try.prog Try.f4 Rows.fnExactKeepFieldsRow.domain false) (Rows.fnExactKeepFieldsSpec.post enc Try.prog Try.f4 false true false false):=by
 refine returnsInHanded_of_change_sized (C:=Try.checked) own started (by kernel_rfl) Try.func4
  (ChangeSpec.witness6 (enc:=enc) (C:=Try.checked) false ⟨#[],#[.agg #[.int .i64 0,.int .i64 0,.string ByteArray.empty],.slice none 0 0],[]⟩ 8 (by kernel_rfl) (by kernel_rfl) (by kernel_rfl) (by kernel_rfl)) ?_
 intro W base args ds gs before hval0 hW hcnd hsz0 _
 have hval : ∀ (j : Nat) t v,Try.f4.params[j]? = some t→args[j]? = some v→Value.okWide Try.prog W .any base t v:=hval0
 have hW':=hW
 obtain ⟨p,q,hA0,hV,rfl,hfz,hnd⟩:=hW
 have hA : DataW.TrodAll enc Try.prog W 0 (fun _ => true) true Try.f4.params.toList args.toList ds p:=hA0
 rw [Try.params4] at hA hval
 obtain ⟨v0,vs0,d0,ds0,p0,q0,hargs,rfl,rfl,h0,r0⟩:=trodAll_cons hA
 obtain ⟨v1,vs1,d1,ds1,p1,q1,rfl,rfl,rfl,h1,r1⟩:=trodAll_cons r0
 obtain ⟨rfl,rfl,rfl⟩:=trodAll_nil r1
 obtain rfl : args = #[v0,v1]:=by cases args;simp_all
 obtain ⟨rfl,rfl⟩:=trodVars_none hV
 have t0:=h0
 have lt0 : ∀ x ∈ p0,x.block<W.heap.size:=by obtain ⟨m,hm⟩:=t0;exact DataW.trod_lt m _ _ _ hm
 obtain ⟨x0,cs0,rfl,K0,g0⟩:=arg_struct Try.underlying23 opens23 (hval 0 23 v0 rfl rfl) h0
 obtain rfl:=k23_open K0
 have t1:=h1
 have lt1 : ∀ x ∈ p1,x.block<W.heap.size:=by obtain ⟨m,hm⟩:=t1;exact DataW.trod_lt m _ _ _ hm
 obtain ⟨x1,A1,c1,rfl,hl1,hc1,g1⟩:=arg_slice Try.underlying30 (opens_slice Try.underlying30 (by kernel_rfl) (opens_string Try.underlying9)) (hval 1 30 v1 rfl rfl) h1
 clear hA0 hval0 hsz0
 obtain ⟨k,hp⟩:=Pure.FnExactKeepFields x0 x1 g0 g1
 refine (Fa.calls k x0.f0 x0.f1 x0.f2 A1 c1 x1 true W hc1 hl1 hp rfl).mono fun e W' ⟨he,bel0⟩ => ?_
 have bel : Below W.heap.size W W':=bel0
 subst he
 exact ⟨_,rfl,_,_,_,[],_,[],hW',trodAll_mk1 (shut_bool Try.underlying4 _),(trodAll_cons_mk (Below.trod laidOut (by kernel_rfl) (of_decide_eq_true (by kernel_rfl)) t0 bel lt0) (trodAll_cons_mk (Below.trod laidOut (by kernel_rfl) (of_decide_eq_true (by kernel_rfl)) t1 bel lt1) trodAll_mk0)),rfl,bel.frame _,fun h => by cases h⟩
theorem over : Rows.fnExactKeepFieldsRow.holds Try.pinned (OpenSpec.ofChange Rows.fnExactKeepFieldsSpec) :=
 OpenClaim.holds_of_wide 4 Try.f4 rfl rfl rfl rfl rfl rfl rfl ⟨rfl,rfl,rfl,rfl,rfl⟩ rfl rfl rfl rfl rfl (by kernel_rfl) Try.func4 (by kernel_rfl)
  (of_decide_eq_true (by kernel_rfl)) (by unfold Func.isWrapper;first|(rw [if_pos (by decide +kernel)];kernel_rfl)|(rw [if_neg (by decide +kernel)];exact ⟨rfl,rfl⟩))
  (fun os started H enc _ => lifted os started H enc)
theorem proved : Rows.FnExactKeepFieldsSaid:=over
#print axioms proved
end Go.Proofs.Ytaoihmompioncaa.fnExactKeepFields
namespace Go.Proofs.Ytaoihmompioncaa
theorem fnExactKeepFields_holds : Rows.FnExactKeepFieldsSaid:=fnExactKeepFields.proved
end Go.Proofs.Ytaoihmompioncaa
end
