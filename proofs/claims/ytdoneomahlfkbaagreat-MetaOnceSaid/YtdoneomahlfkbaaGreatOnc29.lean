/- THE REFERENCE'S P: the reading one, the writing one; WHAT IS READ IS WHAT ITS WRITER PUTS: plain. (printed by gen_paw1.py); THE PROGRAM'S WRITER: numb -/
import Derived.Lib.AppendStr
import Derived.Recover
import Derived.Defers
import Derived.Deep.Slices
import Derived.Deep.Fields
import Derived.ChangeSame
import Derived.Lib.SmallJoins
import Derived.Deep.Cut
import Derived.Great.BuildSlice
import Derived.Test.YtdoneomahlfkbaaGreatOnc28
import Derived.Test.YtdoneomahlfkbaaGreatOnc27
import Derived.Test.YtdoneomahlfkbaaGreatOnc01
import Derived.Test.YtdoneomahlfkbaaGreatOnc03
import Derived.Test.YtdoneomahlfkbaaGreatOnc02
set_option linter.unusedVariables false
set_option linter.unusedSimpArgs false
set_option maxRecDepth 100000
set_option maxHeartbeats 4000000
namespace Go.Proofs.YtdoneomahlfkbaaGreat
section
open Go.RowKit OctMath
def wMd (g:Nat):Md (List Nat) where
 g:=g
 write:=true
 bad _:=false
 fit s a:=s.length+a≤70000000000000
 St s w:=Pen (fun _=>False) g s w
 dep w k:=k=g∨∃v,w.cell? ⟨g,0,none⟩=some v∧v.ownBlock=some k
 wr w k:=k=g∨∃v,w.cell? ⟨g,0,none⟩=some v∧v.ownBlock=some k
 u64 s x:=(s ++ putN x,x)
 u32 s x:=(s ++ putN x,x)
 int s x:=(s ++ putN (zz x),x)
 flag s x:=(s ++ [x.toNat],x)
 text s x:=(s ++ (putN x.length ++ x),x)
 len s x:=(s ++ putN x,x)
def offW (g:Nat) (w:World):Nat→Prop:=fun k=>k<w.heap.size∧¬ (wMd g).wr w k
theorem wMd_pen {g:Nat} {xs:List Nat} {w:World} (h:Pen (fun _=>False) g xs w):Hid (Pen (offW g w) g xs w)∧Hid (Safe (offW g w) g w):=by
 obtain⟨v,hB,hO,hg,-⟩:=h.out
 exact⟨Lh ⟨v,hB,hO,hg,fun k hk e=>hk.2 (.inr ⟨v,hB.cell 0,e⟩)⟩,Lh fun k hk=>⟨hk.1,fun e=>hk.2 (.inl e)⟩⟩
theorem wMd_ret {g:Nat} {xs ys:List Nat} {v:Value} {w w':World} {e:Ending} (h0:Pen (fun _=>False) g xs w) (h:RetPen (offW g w) g ys v w e w'):RetP (wMd g) ys v w e w':=by
 obtain⟨h1,h2,h3⟩:=h
 obtain⟨pv,hB,hO,hg,hh⟩:=h2.out
 have hw:∀k,k<w.heap.size→(wMd g).wr w' k→(wMd g).wr w k:=fun k hk e=>by
  by_cases hn:(wMd g).wr w k
  · exact hn
  · rcases e with e | ⟨u,hu,e⟩
    · exact .inl e
    · have hc:w'.cell? ⟨g,0,none⟩=some pv:=hB.cell 0
      rw [hu] at hc
      injection hc with hc
      subst hc
      exact absurd e (hh k ⟨hk,hn⟩)
 exact⟨h1,⟨pv,hB,hO,hg,fun _ h=>h.elim⟩,h3.os,h3.tape,h3.output,h3.size,fun k hk hn=>h3.block k ⟨hk,hn⟩ hk,hw,hw⟩
theorem octs_strOf (x:List Nat) (h:∀y ∈ x,y<256):octs (strOf x)=x:=by
 unfold octs strOf
 simp only [List.map_map]
 conv=>rhs;rw [← List.map_id x]
 refine List.map_congr_left fun y hy=>?_
 have:=h y hy
 simp [Nat.mod_eq_of_lt this]
theorem strOf_size (x:List Nat):(strOf x).size=x.length:=by
 unfold strOf
 simp [ByteArray.size]
theorem wMd_ok (g:Nat):MdOk (wMd g) where
 gwr:=fun _ => .inl rfl
 glt:=fun h=>h.lt
 cwrite:=fun h=>by obtain⟨v,hB,_⟩:=h.out;exact hB.cell 2
 cbad:=fun h=>by obtain⟨v,hB,_⟩:=h.out;exact hB.cell 3
 grown:=fun {s w w' row} h hg hr=>by
  obtain⟨v,hB,hO,hne,-⟩:=h.out
  have h0:w.cell? ⟨g,0,none⟩=some v:=hB.cell 0
  have hgr:some g≠row:=fun e=>(hr g e.symm).wr (.inl rfl)
  have hB':=hB.grown hg hgr
  have h0':w'.cell? ⟨g,0,none⟩=some v:=hB'.cell 0
  refine⟨⟨v,hB',hO.kept hg ?_,hne,fun _ h=>h.elim⟩,?_,?_⟩
  · cases row with
    | none=>cases hv:v.ownBlock <;> simp
    | some k=>exact .inr (fun e=>(hr k rfl).wr (.inr ⟨v,h0,e⟩))
  · intro k;show (_∨_)↔(_∨_);rw [h0,h0']
  · intro k;show (_∨_)↔(_∨_);rw [h0,h0']
 fresh:=fun h k hk=>by
  obtain⟨v,hB,hO,hne,-⟩:=h.out
  have h0:_=some v:=hB.cell 0
  rcases hk with (rfl | ⟨u,hu,e⟩) | (rfl | ⟨u,hu,e⟩)
  · exact hB.lt
  · rw [h0] at hu;injection hu with hu;exact (hO.lt k (hu ▸ e)).2
  · exact hB.lt
  · rw [h0] at hu;injection hu with hu;exact (hO.lt k (hu ▸ e)).2
 mono:=fun {s a b} h hb=>Nat.le_trans (Nat.add_le_add_left hb _) h
 f_u64:=fun {s a x} h hx=>by have:=putN_len10 hx;show (s ++ putN x).length+a≤_;rw [List.length_append];unfold wMd at h;simp only at h;omega
 f_u32:=fun {s a x} h hx=>by have:=putN_len10 (n:=x) (by omega);show (s ++ putN x).length+a≤_;rw [List.length_append];unfold wMd at h;simp only at h;omega
 f_int:=fun {s a x} h hx=>by have:=putN_len10 (zz_lt hx.1 hx.2);show (s ++ putN (zz x)).length+a≤_;rw [List.length_append];unfold wMd at h;simp only at h;omega
 f_flag:=fun {s a x} h=>by show (s ++ [x.toNat]).length+a≤_;rw [List.length_append];unfold wMd at h;simp only at h;simp only [List.length_singleton];omega
 f_text:=fun {s a x} h hx=>by have:=putN_len10 (n:=x.length) (by omega);show (s ++ (putN x.length ++ x)).length+a≤_;rw [List.length_append,List.length_append];unfold wMd at h;simp only at h;omega
 f_len:=fun {s a x} h hx=>by have:=putN_len10 (n:=x) (by omega);show (s ++ putN x).length+a≤_;rw [List.length_append];unfold wMd at h;simp only at h;omega
 r_u64:=fun h=>h
 r_u32:=fun h=>h
 r_int:=fun h=>h
 r_text:=fun h=>h
 r_len:=fun h=>h
 wlen:=fun _ _ _=>rfl
 c_u64:=fun s x w h hx hf=>by obtain⟨a,b⟩:=wMd_pen h.out;unfold wMd at hf;simp only at hf;exact (pen_u64 _ g s x w a b hx (by omega)).mono fun _ _ r=>wMd_ret h.out r
 c_u32:=fun s x w h hx hf=>by obtain⟨a,b⟩:=wMd_pen h.out;unfold wMd at hf;simp only at hf;exact (pen_u32 _ g s x w a b hx (by omega)).mono fun _ _ r=>wMd_ret h.out r
 c_int:=fun s x w h hx hf=>by obtain⟨a,b⟩:=wMd_pen h.out;unfold wMd at hf;simp only at hf;exact (pen_int _ g s x w a b hx.1 hx.2 (by omega)).mono fun _ _ r=>wMd_ret h.out r
 c_flag:=fun s x w h hf=>by obtain⟨a,b⟩:=wMd_pen h.out;unfold wMd at hf;simp only at hf;exact (pen_flag _ g s x w a b (by omega)).mono fun _ _ r=>wMd_ret h.out r
 c_text:=fun s x w h hx hf=>by
  obtain⟨a,b⟩:=wMd_pen h.out
  unfold wMd at hf
  simp only at hf
  have hs:=strOf_size x
  have:=pen_text _ g s (strOf x) w a b (by omega) (by omega)
  rw [octs_strOf x hx.1,hs] at this
  exact this.mono fun _ _ r=>wMd_ret h.out r
 c_len:=fun s x w h hx hf=>by obtain⟨a,b⟩:=wMd_pen h.out;unfold wMd at hf;simp only at hf;exact (pen_len _ g s x w a b hx (by omega)).mono fun _ _ r=>wMd_ret h.out r
end
section
open OctMath
def pInt (x:Int):List Nat:=putN (zz x)
def pFlag (b:Bool):List Nat:=[if b then 1 else 0]
def pText (xs:List Nat):List Nat:=putN xs.length ++ xs
def pList {α:Type} (put:α→List Nat) (l:List α):List Nat:=putN l.length ++ l.flatMap put
def pMem (x:Int×Int):List Nat:=pInt x.1 ++ pInt x.2
def pMap (x:Nat×List (Int×Int)):List Nat:=putN x.1 ++ pList pMem x.2
def pId (d:IdT):List Nat:=putN d.ver ++ (pInt d.idx ++ putN d.ep)
end
section
open Go.RowKit OctMath
theorem flat_takeP {α:Type} (put:α→List Nat) (l:List α) (z:α) (k:Nat) (h:k<l.length):(l.take (k+1)).flatMap put=(l.take k).flatMap put ++ put (l.getD k z):=by
 rw [List.take_succ_eq_append_getElem h,List.flatMap_append,List.getD_eq_getElem?_getD,List.getElem?_eq_getElem h]
 simp
end
section
open Go.RowKit OctMath
theorem w_it {α β:Type} (g:Nat) {one:List Nat→α→List Nat×β} {put:α→List Nat} (h:∀s x,(one s x).1=s ++ put x) (l:List α) (z:α) (s:List Nat):∀k,k≤l.length→(itF (wMd g) one (fun i=>l.getD i z) k s).1=s ++ (l.take k).flatMap put
 | 0,_=>by simp [itF]
 | k+1,hk=>by
   have ih:=w_it g h l z s k (by omega)
   show (if false=true then _ else _ : List Nat×List β).1=_
   rw [if_neg (by simp),h,ih,flat_takeP put l z k (by omega),List.append_assoc]
theorem w_ints (g:Nat) (s:List Nat) (l:List Int):(intsF (wMd g) s l).1=s ++ pList pInt l:=by
 have h:=w_it g (one:=(wMd g).int) (put:=pInt) (fun s x=>rfl) l 0 (s ++ putN l.length) l.length (Nat.le_refl _)
 rw [List.take_length] at h
 show (itF (wMd g) (wMd g).int (fun i=>l.getD i 0) l.length (s ++ putN l.length)).1=_
 rw [h];unfold pList;rw [List.append_assoc]
theorem w_id (g:Nat) (s:List Nat) (x:IdT):(idF (wMd g) s x).1=s ++ pId x:=by
 simp only [idF,bnd,wMd,pId,pInt,List.append_assoc]
theorem w_mem (g:Nat) (s:List Nat) (x:Int×Int):(memF (wMd g) s x).1=s ++ pMem x:=by
 simp only [memF,bnd,wMd,pMem,pInt,List.append_assoc]
theorem w_mems (g:Nat) (s:List Nat) (l:List (Int×Int)):(memsF (wMd g) s l).1=s ++ pList pMem l:=by
 have h:=w_it g (one:=memF (wMd g)) (put:=pMem) (fun s x=>w_mem g s x) l (0,0) (s ++ putN l.length) l.length (Nat.le_refl _)
 rw [List.take_length] at h
 show (itF (wMd g) (memF (wMd g)) (fun i=>l.getD i (0,0)) l.length (s ++ putN l.length)).1=_
 rw [h];unfold pList;rw [List.append_assoc]
theorem w_map (g:Nat) (s:List Nat) (x:Nat×List (Int×Int)):(mapF (wMd g) s x).1=s ++ pMap x:=by
 show (memsF (wMd g) (s ++ putN x.1) x.2).1=_
 rw [w_mems];unfold pMap;rw [List.append_assoc]
theorem w_flag (b:Bool):[b.toNat]=pFlag b:=by cases b <;> rfl
abbrev RS_:=Int×Bool
structure Sees {α:Type} (F:RS_→RS_×α) (r:Rd α):Prop where
 good:∀p y q,r p=some (y,q)→F ((p:Int),false)=(((q:Int),false),y)
 fail:∀p,r p=none→(F ((p:Int),false)).1.2=true
 bad:∀q:Int,(F (q,true)).1.2=true
def Outs {α:Type} (n:Nat) (F:RS_→RS_×α):Prop:=∀q:Int,q<0∨(n:Int)<q→(F (q,false)).1.2=true
theorem state_eq {s:RS_} (h:s.2=true):s=(s.1,true):=by rw [← h]
theorem Sees.pure {α:Type} (x:α):Sees (fun s=>(s,x)) (Rd.pure x):=⟨fun p y q h=>by cases h;rfl,fun p h=>(by cases h),fun _=>rfl⟩
theorem Sees.bind {α β:Type} {F:RS_→RS_×α} {r:Rd α} {G:RS_→α→RS_×β} {k:α→Rd β} (h:Sees F r) (hk:∀x,Sees (fun s=>G s x) (k x)):Sees (fun s=>bnd (F s) G) (r.bind k):=by
 refine⟨fun p y q e=>?_,fun p e=>?_,fun q=>?_⟩
 · unfold Rd.bind at e
   cases h1:r p with
   | none=>rw [h1] at e;cases e
   | some v =>
     obtain⟨x,p1⟩:=v
     rw [h1] at e
     show bnd (F ((p:Int),false)) G=_
     rw [h.good p x p1 h1,bnd_mk]
     exact (hk x).good p1 y q e
 · show (bnd (F ((p:Int),false)) G).1.2=true
   unfold Rd.bind at e
   cases h1:r p with
   | none =>
     have hb:=h.fail p h1
     generalize F ((p:Int),false)=r2 at hb ⊢
     obtain⟨s,x⟩:=r2
     have hb:s.2=true:=hb
     rw [bnd_mk]
     rw [state_eq hb]
     exact (hk x).bad _
   | some v =>
     obtain⟨x,p1⟩:=v
     rw [h1] at e
     rw [h.good p x p1 h1,bnd_mk]
     exact (hk x).fail p1 e
 · show (bnd (F (q,true)) G).1.2=true
   have hb:=h.bad q
   generalize F (q,true)=r2 at hb ⊢
   obtain⟨s,x⟩:=r2
   have hb:s.2=true:=hb
   rw [bnd_mk]
   rw [state_eq hb]
   exact (hk x).bad _
theorem Outs.bind {α β:Type} {n:Nat} {F:RS_→RS_×α} {G:RS_→α→RS_×β} {k:α→Rd β} (h:Outs n F) (hk:∀x,Sees (fun s=>G s x) (k x)):Outs n (fun s=>bnd (F s) G):=fun q hq=>by
 show (bnd (F (q,false)) G).1.2=true
 have hb:=h q hq
 generalize F (q,false)=r2 at hb ⊢
 obtain⟨s,x⟩:=r2
 have hb:s.2=true:=hb
 rw [bnd_mk]
 rw [state_eq hb]
 exact (hk x).bad _
section
variable {bs:List Nat} (hb:Byt bs)
include hb
end
section
variable {g n cap:Nat} {A:Option Addr} {bs:List Nat} (hb:Byt bs)
include hb
end
end
section
open Go.RowKit OctMath
theorem pen_free {g k B:Nat} {xs:List Nat} {w:World} (h:Pen (fun k=>k<B) g xs w) (hk:k<B) (hB:B≤w.heap.size) (hg:B≤g):Free (wMd g) k w:=by
 obtain⟨v,hBk,hO,hne,hh⟩:=h.out
 have h0:w.cell? ⟨g,0,none⟩=some v:=hBk.cell 0
 have hn:¬ (k=g∨∃u,w.cell? ⟨g,0,none⟩=some u∧u.ownBlock=some k):=by
  rintro (e | ⟨u,hu,e⟩)
  · omega
  · rw [h0] at hu
    injection hu with hu
    subst hu
    exact hh k hk e
 exact⟨by omega,hn,hn⟩
theorem stp_below {σ:Type} {M:Md σ} {w w':World} {B:Nat} (h:Stp M w w') (hB:B≤w.heap.size) (hf:∀k,k<B→¬M.wr w k):Below B w w':=⟨h.os,h.tape,h.output,h.size,fun k hk=>h.block k (by omega) (hf k hk)⟩
end
section
open Go.RowKit OctMath
structure InB (w:World) (A:Option Addr) (n cap:Nat) (bs:List Nat):Prop where
 rd:Reads w w.heap.size 1 A n (bs.map bv)
 byt:Byt bs
 len:bs.length=n
 le:n≤cap
 mx:cap≤maxLen
 reach:n≤140737488351232
section
variable {P:Program} {fn:Func} {tmps:Array Value} {a b c:Nat} {ty ty' ty'':TypeId} {p q r:Addr} {u v z:Value} {w:World}
end
end
section
open Go.RowKit OctMath
theorem InB.later {w w':World} {A:Option Addr} {n cap:Nat} {bs:List Nat} (h:InB w A n cap bs) (hb:Below w.heap.size w w'):InB w' A n cap bs:=⟨h.rd.later hb,h.byt,h.len,h.le,h.mx,h.reach⟩
section
variable {P:Program} {fn:Func} {tmps:Array Value} {a b c:Nat} {ty:TypeId} {p:Addr} {u v z:Value} {w:World}
end
end
section
open Go.RowKit OctMath
structure Got {α:Type} (r:List Nat→Rd α) (x:α) (ys:List Nat):Prop where
 rd:∀pre rest,r (pre ++ (ys ++ rest)) pre.length=some (x,(pre ++ ys).length)
theorem Got.pure {α:Type} (x:α):Got (fun _=>Rd.pure x) x []:=⟨fun pre rest=>by simp [Rd.pure]⟩
theorem Got.bind {α β:Type} {r:List Nat→Rd α} {f:List Nat→α→Rd β} {x:α} {y:β} {ys zs:List Nat} (h:Got r x ys) (k:Got (fun bs=>f bs x) y zs):Got (fun bs=>(r bs).bind (f bs)) y (ys ++ zs):=by
 refine⟨fun pre rest=>?_⟩
 have e1:pre ++ ((ys ++ zs) ++ rest)=pre ++ (ys ++ (zs ++ rest)):=by simp only [List.append_assoc]
 have e2:pre ++ (ys ++ (zs ++ rest))=(pre ++ ys) ++ (zs ++ rest):=by simp only [List.append_assoc]
 have h1:=h.rd pre (zs ++ rest)
 have h2:=k.rd (pre ++ ys) rest
 show ((r _).bind (f _)) pre.length=_
 rw [e1,Rd.bind_some h1,e2,h2,List.append_assoc]
theorem Got.last {α β:Type} {r:List Nat→Rd α} {f:α→β} {x:α} {ys:List Nat} (h:Got r x ys):Got (fun bs=>(r bs).bind fun x=>Rd.pure (f x)) (f x) ys:=by
 have:=h.bind (f:=fun _ x=>Rd.pure (f x)) (Got.pure (f x))
 rwa [List.append_nil] at this
end
section
open Go.RowKit OctMath
def pObj (x:ObjT):List Nat:=pText x.key ++ (putN x.version ++ (pInt x.size ++ (putN x.sum ++ (pInt x.group ++ (putN x.epoch ++ pList pInt x.nodes)))))
def pIntent (x:IntT):List Nat:=pObj x.obj ++ (putN x.client ++ putN x.seq)
def pSes (x:SesT):List Nat:=putN x.client ++ (putN x.seq ++ (pFlag x.opn ++ (putN x.version ++ pInt x.code)))
def pWas (x:WasT):List Nat:=pId x.id ++ pInt x.node
def pMet (x:MetT):List Nat:=pInt x.k ++ (pInt x.n ++ (pInt x.groups ++ (pMap (x.mep,x.mem) ++ (pMap (x.nep,x.nem) ++ (pList pInt x.cut ++ (pList pObj x.objs ++ (pList pIntent x.ints ++ (pList pSes x.sess ++ (pList pWas x.wass ++ (pList pInt x.down ++ putN x.last))))))))))
end
section
open Go.RowKit OctMath
theorem Tryz.sizeO:(Tryz.prog.info? 58).map (·.size)=some 7:=by kernel_rfl
theorem Tryz.sizeIn:(Tryz.prog.info? 60).map (·.size)=some 9:=by kernel_rfl
theorem Tryz.sizeSe:(Tryz.prog.info? 92).map (·.size)=some 5:=by kernel_rfl
theorem Tryz.sizeWa:(Tryz.prog.info? 52).map (·.size)=some 4:=by kernel_rfl
def objCs (x:ObjT) (A:Option Addr) (c:Nat):Array Value:=#[.string (strOf x.key),.int .u64 (x.version:Int),.int .i64 x.size,.int .u32 (x.sum:Int),.int .i64 x.group,.int .u64 (x.epoch:Int),.slice A x.nodes.length c]
end
section
open Go.RowKit OctMath
variable {σ:Type}
def objF (M:Md σ) (s:σ) (x:ObjT):σ×ObjT:=bnd (M.text s x.key) fun s1 y1=>bnd (M.u64 s1 x.version) fun s2 y2=>bnd (M.int s2 x.size) fun s3 y3=>bnd (M.u32 s3 x.sum) fun s4 y4=>bnd (M.int s4 x.group) fun s5 y5=>bnd (M.u64 s5 x.epoch) fun s6 y6=>bnd (intsF M s6 x.nodes) fun s7 y7=>(s7,⟨y1,y2,y3,y4,y5,y6,y7⟩)
def RetOj (M:Md σ) (s':σ) (y:ObjT) (w:World) (e:Ending) (w':World):Prop :=
 ∃A c,e = .returned (.agg (objCs y A c))∧Lx M w.heap.size 1 A c y.nodes.length (y.nodes.map iv) w'∧M.St s' w'∧Stp M w w'
theorem f_object {M:Md σ} (hM:MdOk M) {s:σ} {a:Nat} {x:ObjT} (HO:ObjOk x) (h:M.fit s (a+11534500)):M.fit (objF M s x).1 a:=by
 show M.fit (bnd (M.text s x.key) fun s1 y1=>bnd (M.u64 s1 x.version) fun s2 y2=>bnd (M.int s2 x.size) fun s3 y3=>bnd (M.u32 s3 x.sum) fun s4 y4=>bnd (M.int s4 x.group) fun s5 y5=>bnd (M.u64 s5 x.epoch) fun s6 y6=>bnd (intsF M s6 x.nodes) fun s7 y7=>(s7,⟨y1,y2,y3,y4,y5,y6,y7⟩):σ×(ObjT)).1 a
 have h1:=hM.f_text (s:=s) (x:=x.key) (a:=a+10485914) (hM.mono h (by omega)) (HO.key).2
 generalize M.text s x.key=r1 at *
 obtain⟨s1,y1⟩:=r1
 rw [bnd_mk]
 have h2:=hM.f_u64 (s:=s1) (x:=x.version) (a:=a+10485904) (hM.mono h1 (by omega)) HO.version
 generalize M.u64 s1 x.version=r2 at *
 obtain⟨s2,y2⟩:=r2
 rw [bnd_mk]
 have h3:=hM.f_int (s:=s2) (x:=x.size) (a:=a+10485894) (hM.mono h2 (by omega)) HO.size
 generalize M.int s2 x.size=r3 at *
 obtain⟨s3,y3⟩:=r3
 rw [bnd_mk]
 have h4:=hM.f_u32 (s:=s3) (x:=x.sum) (a:=a+10485884) (hM.mono h3 (by omega)) HO.sum
 generalize M.u32 s3 x.sum=r4 at *
 obtain⟨s4,y4⟩:=r4
 rw [bnd_mk]
 have h5:=hM.f_int (s:=s4) (x:=x.group) (a:=a+10485874) (hM.mono h4 (by omega)) HO.group
 generalize M.int s4 x.group=r5 at *
 obtain⟨s5,y5⟩:=r5
 rw [bnd_mk]
 have h6:=hM.f_u64 (s:=s5) (x:=x.epoch) (a:=a+10485864) (hM.mono h5 (by omega)) HO.epoch
 generalize M.u64 s5 x.epoch=r6 at *
 obtain⟨s6,y6⟩:=r6
 rw [bnd_mk]
 have h7:=f_ints hM (HO.nodes).2 (getD_I64 (HO.nodes).1) (a:=a+74) (hM.mono h6 (by omega))
 generalize intsF M s6 x.nodes=r7 at *
 obtain⟨s7,y7⟩:=r7
 rw [bnd_mk]
 exact hM.mono h7 (by omega)
theorem pf_object (M:Md σ) (hM:MdOk M) (s:σ) (A:Option Addr) (c:Nat) (x:ObjT) (w:World) (hS:Hid (M.St s w)) (hK:Hid (Ls M 1 A x.nodes.length (x.nodes.map iv) w)) (HO:ObjOk x) (KZ:Hid (M.write=false→x.nodes=[])) (hf:Hid (M.fit s 11534500)) :
 Calls Tryz.prog 140 #[.pointer (some ⟨M.g,0,none⟩),.agg #[.string (strOf x.key),.int .u64 (x.version:Int),.int .i64 x.size,.int .u32 (x.sum:Int),.int .i64 x.group,.int .u64 (x.epoch:Int),.slice A x.nodes.length c]] w (RetOj M (objF M s x).1 (objF M s x).2 w):=by
 have HR:=Lh (show objF M s x=bnd (M.text s x.key) fun s1 y1=>bnd (M.u64 s1 x.version) fun s2 y2=>bnd (M.int s2 x.size) fun s3 y3=>bnd (M.u32 s3 x.sum) fun s4 y4=>bnd (M.int s4 x.group) fun s5 y5=>bnd (M.u64 s5 x.epoch) fun s6 y6=>bnd (intsF M s6 x.nodes) fun s7 y7=>(s7,⟨y1,y2,y3,y4,y5,y6,y7⟩) from rfl)
 have HF:=Lh hf.out
 have HO:=Lh HO
 obtain⟨w0,ew0⟩:∃w0,((w.alloc (.cells #[.string (strOf x.key),.int .u64 (x.version:Int),.int .i64 x.size,.int .u32 (x.sum:Int),.int .i64 x.group,.int .u64 (x.epoch:Int),.slice A x.nodes.length c] 58)).alloc (.cells #[.string ⟨#[]⟩,.int .u64 0,.int .i64 0,.int .u32 0,.int .i64 0,.int .u64 0,.slice none 0 0] 58))=w0:=⟨_,rfl⟩
 have hwa:=(Wk.start hS.out).alloc hM (.cells #[.string (strOf x.key),.int .u64 (x.version:Int),.int .i64 x.size,.int .u32 (x.sum:Int),.int .i64 x.group,.int .u64 (x.epoch:Int),.slice A x.nodes.length c] 58)
 have hx:=(Bk.new hM (Wk.start hS.out) #[.string (strOf x.key),.int .u64 (x.version:Int),.int .i64 x.size,.int .u32 (x.sum:Int),.int .i64 x.group,.int .u64 (x.epoch:Int),.slice A x.nodes.length c] 58).alloc hM hwa.st (.cells #[.string ⟨#[]⟩,.int .u64 0,.int .i64 0,.int .u32 0,.int .i64 0,.int .u64 0,.slice none 0 0] 58)
 have hr:Bk M w (w.heap.size+1) 58 #[.string ⟨#[]⟩,.int .u64 0,.int .i64 0,.int .u32 0,.int .i64 0,.int .u64 0,.slice none 0 0] ((w.alloc (.cells #[.string (strOf x.key),.int .u64 (x.version:Int),.int .i64 x.size,.int .u32 (x.sum:Int),.int .i64 x.group,.int .u64 (x.epoch:Int),.slice A x.nodes.length c] 58)).alloc (.cells #[.string ⟨#[]⟩,.int .u64 0,.int .i64 0,.int .u32 0,.int .i64 0,.int .u64 0,.slice none 0 0] 58)):=by have:=Bk.new hM hwa #[.string ⟨#[]⟩,.int .u64 0,.int .i64 0,.int .u32 0,.int .i64 0,.int .u64 0,.slice none 0 0] 58;simpa using this
 have hw:=hwa.alloc hM (.cells #[.string ⟨#[]⟩,.int .u64 0,.int .i64 0,.int .u32 0,.int .i64 0,.int .u64 0,.slice none 0 0] 58)
 have hK1:=(hK.out.alloc hM hS.out (.cells #[.string (strOf x.key),.int .u64 (x.version:Int),.int .i64 x.size,.int .u32 (x.sum:Int),.int .i64 x.group,.int .u64 (x.epoch:Int),.slice A x.nodes.length c] 58)).alloc hM hwa.st (.cells #[.string ⟨#[]⟩,.int .u64 0,.int .i64 0,.int .u32 0,.int .i64 0,.int .u64 0,.slice none 0 0] 58)
 have aK:=Lh (hK.out.apart (Nat.le_refl _))
 have bK:=Lh (hK.out.apart (Nat.le_succ _))
 rw [ew0] at hx hr hw hK1
 have HX:=Lh hx
 have HB:=Lh hr
 have HW:=Lh hw
 have K:=Lh hK1
 clear hx hr hw hwa hK1
 have cx0:=HX.out.blk.cell 0
 go_enter Tryz.func140,Tryz.ntmps140
 go_wp2_with fail
 clear ew0 cx0
 have HC:=Lh (hM.c_text s x.key _ (Lh HW.out.st) HO.out.key (hM.mono HF.out (by omega)))
 have HF:=Lh (hM.f_text (s:=s) (x:=x.key) (a:=10485914) (hM.mono HF.out (by omega)) (HO.out.key).2)
 generalize M.text s x.key=r at *
 obtain⟨s1,y1⟩:=r
 rw [bnd_mk] at HR
 simp only at HC HF
 refine HC.out.mono ?_
 rintro e w1 ⟨rfl,hs,hk⟩
 clear HC
 have K:=Lh (K.out.call hk)
 have HX:=Lh (HX.out.call hk)
 have HB:=Lh (HB.out.call hk)
 have HW:=Lh (HW.out.call hs hk)
 clear hs hk
 have cx0:=HX.out.blk.cell 0
 have fx:=HX.out.blk.frozen
 have cx1:=HX.out.blk.cell 1
 go_wp2_with fail
 obtain⟨v1,ew⟩:∃v1,w1.setCell ⟨w.heap.size,0,none⟩ (.string (strOf y1))=v1:=⟨_,rfl⟩
 have hO:=(Only.set_ w1 w.heap.size 0 (.string (strOf y1)))
 have hB:Blk (w1.setCell ⟨w.heap.size,0,none⟩ (.string (strOf y1))) w.heap.size 58 #[.string (strOf y1),.int .u64 (x.version:Int),.int .i64 x.size,.int .u32 (x.sum:Int),.int .i64 x.group,.int .u64 (x.epoch:Int),.slice A x.nodes.length c]:=by have:=(HX.out.blk.set_ 0 (.string (strOf y1)));simpa using this
 rw [ew] at hO hB ⊢
 have K:=Lh (K.out.only hM HW.out.st hO HX.out.free aK.out)
 have HB:=Lh (HB.out.only hM HW.out.st hO HX.out.free (by omega))
 have HX1:=Lh (HX.out.turn hM HW.out.st hO hB)
 have HW:=Lh (HW.out.only hM HX.out hO)
 have HX:=HX1
 clear HX1 ew hO hB fx cx0 cx1
 have HC:=Lh (hM.c_u64 s1 x.version _ (Lh HW.out.st) HO.out.version (hM.mono HF.out (by omega)))
 have HF:=Lh (hM.f_u64 (s:=s1) (x:=x.version) (a:=10485904) (hM.mono HF.out (by omega)) HO.out.version)
 generalize M.u64 s1 x.version=r at *
 obtain⟨s2,y2⟩:=r
 rw [bnd_mk] at HR
 simp only at HC HF
 refine HC.out.mono ?_
 rintro e w2 ⟨rfl,hs,hk⟩
 clear HC
 have K:=Lh (K.out.call hk)
 have HX:=Lh (HX.out.call hk)
 have HB:=Lh (HB.out.call hk)
 have HW:=Lh (HW.out.call hs hk)
 clear hs hk
 have cx1:=HX.out.blk.cell 1
 have fx:=HX.out.blk.frozen
 have cx2:=HX.out.blk.cell 2
 go_wp2_with fail
 obtain⟨v2,ew⟩:∃v2,w2.setCell ⟨w.heap.size,1,none⟩ (.int .u64 (y2:Int))=v2:=⟨_,rfl⟩
 have hO:=(Only.set_ w2 w.heap.size 1 (.int .u64 (y2:Int)))
 have hB:Blk (w2.setCell ⟨w.heap.size,1,none⟩ (.int .u64 (y2:Int))) w.heap.size 58 #[.string (strOf y1),.int .u64 (y2:Int),.int .i64 x.size,.int .u32 (x.sum:Int),.int .i64 x.group,.int .u64 (x.epoch:Int),.slice A x.nodes.length c]:=by have:=(HX.out.blk.set_ 1 (.int .u64 (y2:Int)));simpa using this
 rw [ew] at hO hB ⊢
 have K:=Lh (K.out.only hM HW.out.st hO HX.out.free aK.out)
 have HB:=Lh (HB.out.only hM HW.out.st hO HX.out.free (by omega))
 have HX1:=Lh (HX.out.turn hM HW.out.st hO hB)
 have HW:=Lh (HW.out.only hM HX.out hO)
 have HX:=HX1
 clear HX1 ew hO hB fx cx1 cx2
 have HC:=Lh (hM.c_int s2 x.size _ (Lh HW.out.st) HO.out.size (hM.mono HF.out (by omega)))
 have HF:=Lh (hM.f_int (s:=s2) (x:=x.size) (a:=10485894) (hM.mono HF.out (by omega)) HO.out.size)
 generalize M.int s2 x.size=r at *
 obtain⟨s3,y3⟩:=r
 rw [bnd_mk] at HR
 simp only at HC HF
 refine HC.out.mono ?_
 rintro e w3 ⟨rfl,hs,hk⟩
 clear HC
 have K:=Lh (K.out.call hk)
 have HX:=Lh (HX.out.call hk)
 have HB:=Lh (HB.out.call hk)
 have HW:=Lh (HW.out.call hs hk)
 clear hs hk
 have cx2:=HX.out.blk.cell 2
 have fx:=HX.out.blk.frozen
 have cx3:=HX.out.blk.cell 3
 go_wp2_with fail
 obtain⟨v3,ew⟩:∃v3,w3.setCell ⟨w.heap.size,2,none⟩ (.int .i64 y3)=v3:=⟨_,rfl⟩
 have hO:=(Only.set_ w3 w.heap.size 2 (.int .i64 y3))
 have hB:Blk (w3.setCell ⟨w.heap.size,2,none⟩ (.int .i64 y3)) w.heap.size 58 #[.string (strOf y1),.int .u64 (y2:Int),.int .i64 y3,.int .u32 (x.sum:Int),.int .i64 x.group,.int .u64 (x.epoch:Int),.slice A x.nodes.length c]:=by have:=(HX.out.blk.set_ 2 (.int .i64 y3));simpa using this
 rw [ew] at hO hB ⊢
 have K:=Lh (K.out.only hM HW.out.st hO HX.out.free aK.out)
 have HB:=Lh (HB.out.only hM HW.out.st hO HX.out.free (by omega))
 have HX1:=Lh (HX.out.turn hM HW.out.st hO hB)
 have HW:=Lh (HW.out.only hM HX.out hO)
 have HX:=HX1
 clear HX1 ew hO hB fx cx2 cx3
 have HC:=Lh (hM.c_u32 s3 x.sum _ (Lh HW.out.st) HO.out.sum (hM.mono HF.out (by omega)))
 have HF:=Lh (hM.f_u32 (s:=s3) (x:=x.sum) (a:=10485884) (hM.mono HF.out (by omega)) HO.out.sum)
 generalize M.u32 s3 x.sum=r at *
 obtain⟨s4,y4⟩:=r
 rw [bnd_mk] at HR
 simp only at HC HF
 refine HC.out.mono ?_
 rintro e w4 ⟨rfl,hs,hk⟩
 clear HC
 have K:=Lh (K.out.call hk)
 have HX:=Lh (HX.out.call hk)
 have HB:=Lh (HB.out.call hk)
 have HW:=Lh (HW.out.call hs hk)
 clear hs hk
 have cx3:=HX.out.blk.cell 3
 have fx:=HX.out.blk.frozen
 have cx4:=HX.out.blk.cell 4
 go_wp2_with fail
 obtain⟨v4,ew⟩:∃v4,w4.setCell ⟨w.heap.size,3,none⟩ (.int .u32 (y4:Int))=v4:=⟨_,rfl⟩
 have hO:=(Only.set_ w4 w.heap.size 3 (.int .u32 (y4:Int)))
 have hB:Blk (w4.setCell ⟨w.heap.size,3,none⟩ (.int .u32 (y4:Int))) w.heap.size 58 #[.string (strOf y1),.int .u64 (y2:Int),.int .i64 y3,.int .u32 (y4:Int),.int .i64 x.group,.int .u64 (x.epoch:Int),.slice A x.nodes.length c]:=by have:=(HX.out.blk.set_ 3 (.int .u32 (y4:Int)));simpa using this
 rw [ew] at hO hB ⊢
 have K:=Lh (K.out.only hM HW.out.st hO HX.out.free aK.out)
 have HB:=Lh (HB.out.only hM HW.out.st hO HX.out.free (by omega))
 have HX1:=Lh (HX.out.turn hM HW.out.st hO hB)
 have HW:=Lh (HW.out.only hM HX.out hO)
 have HX:=HX1
 clear HX1 ew hO hB fx cx3 cx4
 have HC:=Lh (hM.c_int s4 x.group _ (Lh HW.out.st) HO.out.group (hM.mono HF.out (by omega)))
 have HF:=Lh (hM.f_int (s:=s4) (x:=x.group) (a:=10485874) (hM.mono HF.out (by omega)) HO.out.group)
 generalize M.int s4 x.group=r at *
 obtain⟨s5,y5⟩:=r
 rw [bnd_mk] at HR
 simp only at HC HF
 refine HC.out.mono ?_
 rintro e w5 ⟨rfl,hs,hk⟩
 clear HC
 have K:=Lh (K.out.call hk)
 have HX:=Lh (HX.out.call hk)
 have HB:=Lh (HB.out.call hk)
 have HW:=Lh (HW.out.call hs hk)
 clear hs hk
 have cx4:=HX.out.blk.cell 4
 have fx:=HX.out.blk.frozen
 have cx5:=HX.out.blk.cell 5
 go_wp2_with fail
 obtain⟨v5,ew⟩:∃v5,w5.setCell ⟨w.heap.size,4,none⟩ (.int .i64 y5)=v5:=⟨_,rfl⟩
 have hO:=(Only.set_ w5 w.heap.size 4 (.int .i64 y5))
 have hB:Blk (w5.setCell ⟨w.heap.size,4,none⟩ (.int .i64 y5)) w.heap.size 58 #[.string (strOf y1),.int .u64 (y2:Int),.int .i64 y3,.int .u32 (y4:Int),.int .i64 y5,.int .u64 (x.epoch:Int),.slice A x.nodes.length c]:=by have:=(HX.out.blk.set_ 4 (.int .i64 y5));simpa using this
 rw [ew] at hO hB ⊢
 have K:=Lh (K.out.only hM HW.out.st hO HX.out.free aK.out)
 have HB:=Lh (HB.out.only hM HW.out.st hO HX.out.free (by omega))
 have HX1:=Lh (HX.out.turn hM HW.out.st hO hB)
 have HW:=Lh (HW.out.only hM HX.out hO)
 have HX:=HX1
 clear HX1 ew hO hB fx cx4 cx5
 have HC:=Lh (hM.c_u64 s5 x.epoch _ (Lh HW.out.st) HO.out.epoch (hM.mono HF.out (by omega)))
 have HF:=Lh (hM.f_u64 (s:=s5) (x:=x.epoch) (a:=10485864) (hM.mono HF.out (by omega)) HO.out.epoch)
 generalize M.u64 s5 x.epoch=r at *
 obtain⟨s6,y6⟩:=r
 rw [bnd_mk] at HR
 simp only at HC HF
 refine HC.out.mono ?_
 rintro e w6 ⟨rfl,hs,hk⟩
 clear HC
 have K:=Lh (K.out.call hk)
 have HX:=Lh (HX.out.call hk)
 have HB:=Lh (HB.out.call hk)
 have HW:=Lh (HW.out.call hs hk)
 clear hs hk
 have cx5:=HX.out.blk.cell 5
 have fx:=HX.out.blk.frozen
 have cx6:=HX.out.blk.cell 6
 go_wp2_with fail
 obtain⟨v6,ew⟩:∃v6,w6.setCell ⟨w.heap.size,5,none⟩ (.int .u64 (y6:Int))=v6:=⟨_,rfl⟩
 have hO:=(Only.set_ w6 w.heap.size 5 (.int .u64 (y6:Int)))
 have hB:Blk (w6.setCell ⟨w.heap.size,5,none⟩ (.int .u64 (y6:Int))) w.heap.size 58 #[.string (strOf y1),.int .u64 (y2:Int),.int .i64 y3,.int .u32 (y4:Int),.int .i64 y5,.int .u64 (y6:Int),.slice A x.nodes.length c]:=by have:=(HX.out.blk.set_ 5 (.int .u64 (y6:Int)));simpa using this
 rw [ew] at hO hB ⊢
 have K:=Lh (K.out.only hM HW.out.st hO HX.out.free aK.out)
 have HB:=Lh (HB.out.only hM HW.out.st hO HX.out.free (by omega))
 have HX1:=Lh (HX.out.turn hM HW.out.st hO hB)
 have HW:=Lh (HW.out.only hM HX.out hO)
 have HX:=HX1
 clear HX1 ew hO hB fx cx5 cx6
 have HC:=Lh (pf_ints M hM s6 A x.nodes.length c x.nodes _ (Lh HW.out.st) (Lh K.out) (Lh rfl) (HO.out.nodes).2 (Lh (HO.out.nodes).1) KZ (Lh (hM.mono HF.out (by omega))))
 have HF:=Lh (f_ints hM (HO.out.nodes).2 (getD_I64 (HO.out.nodes).1) (a:=74) (hM.mono HF.out (by omega)))
 generalize intsF M s6 x.nodes=r at *
 obtain⟨s7,y7⟩:=r
 rw [bnd_mk] at HR
 simp only at HC HF
 refine HC.out.mono ?_
 rintro e w7 ⟨A7,c7,rfl,l0,hs,hk⟩
 clear HC
 have K:=Lh (K.out.call hk)
 have L70:=Lh (l0.mono HB.out.free.lt)
 clear l0
 have HX:=Lh (HX.out.call hk)
 have HB:=Lh (HB.out.call hk)
 have HW:=Lh (HW.out.call hs hk)
 clear hs hk
 have cx6:=HX.out.blk.cell 6
 have fx:=HX.out.blk.frozen
 have hO:=(Only.set_ w7 w.heap.size 6 (.slice A7 y7.length c7))
 have hB:Blk (w7.setCell ⟨w.heap.size,6,none⟩ (.slice A7 y7.length c7)) w.heap.size 58 #[.string (strOf y1),.int .u64 (y2:Int),.int .i64 y3,.int .u32 (y4:Int),.int .i64 y5,.int .u64 (y6:Int),.slice A7 y7.length c7]:=by have:=(HX.out.blk.set_ 6 (.slice A7 y7.length c7));simpa using this
 have K:=Lh (K.out.only hM HW.out.st hO HX.out.free aK.out)
 have L70:=Lh (L70.out.only hM HW.out.st hO HX.out.free (by omega))
 have HB:=Lh (HB.out.only hM HW.out.st hO HX.out.free (by omega))
 have HX1:=Lh (HX.out.turn hM HW.out.st hO hB)
 have HW:=Lh (HW.out.only hM HX.out hO)
 have HX:=HX1
 clear HX1 hO hB
 go_wp2_with (first | (refine wpl_load_blk rfl 58 (.tmp 3) rfl w.heap.size 58 _ _ rfl HX.out.blk Tryz.underlying58 rfl Tryz.sizeO ?_) | (refine wpl_store_blk rfl 58 (.tmp 4) (.tmp 40) rfl (w.heap.size+1) 58 _ #[.string (strOf y1),.int .u64 (y2:Int),.int .i64 y3,.int .u32 (y4:Int),.int .i64 y5,.int .u64 (y6:Int),.slice A7 y7.length c7] rfl rfl HB.out.blk rfl Tryz.sizeO rfl ?_;intro wf hB hO))
 have L70:=Lh (L70.out.only hM HW.out.st hO.out HB.out.free (by omega))
 have HW:=Lh (HW.out.only hM HB.out hO.out)
 refine bodyPost_ret (v := .agg #[.string (strOf y1),.int .u64 (y2:Int),.int .i64 y3,.int .u32 (y4:Int),.int .i64 y5,.int .u64 (y6:Int),.slice A7 y7.length c7]) (res_c Tryz.results140 rfl (load_blk hB.out Tryz.underlying58 rfl Tryz.sizeO)) rfl ?_
 rw [HR.out]
 exact⟨A7,c7,rfl,L70.out.mono (by omega),HW.out.st,HW.out.stp⟩
end
section
open Go.RowKit OctMath
def Off (v:Value) (n:Nat) (A:Option Addr):Prop:=0<n→∀ad,A=some ad→v.ownBlock≠some ad.block
structure Subs (lo:Nat) (v:Value) (l:List (Option Addr×Nat×List Int)) (w:World):Prop where
 all:∀m ∈ l,Lst lo 1 m.1 m.2.1 m.2.2.length (m.2.2.map iv) w∧Off v m.2.2.length m.1
theorem Subs.nil (lo:Nat) (v:Value) (w:World):Subs lo v [] w:=⟨fun m h=>by cases h⟩
theorem Lst.lt {lo size:Nat} {A:Option Addr} {c k:Nat} {xs:List Value} {w:World} (h:Lst lo size A c k xs w) (hk:0<k) {ad:Addr} (e:A=some ad):ad.block<w.heap.size:=by
 obtain⟨ad',e',hb,-⟩:=h.rd.2 hk
 rw [e] at e'
 obtain rfl:=Option.some.inj e'
 exact hb
theorem Subs.more {lo:Nat} {v v':Value} {l:List (Option Addr×Nat×List Int)} {w w':World} {o:Obj} (h:Subs lo v l w) (hg:(w.alloc o).grownBy w' v.ownBlock) (hv:v'.ownBlock=v.ownBlock∨v'.ownBlock=some (w.alloc o).heap.size):Subs lo v' l w':=by
 refine⟨fun m hm=>?_⟩
 obtain⟨h1,h2⟩:=h.all m hm
 have hs:(w.alloc o).heap.size=w.heap.size+1:=by simp
 refine⟨⟨⟨h1.rd.1,fun hn=>?_⟩,h1.lo,h1.kc,h1.cm⟩,fun hn ad e=>?_⟩
 · obtain⟨ad,e,hb,hc⟩:=h1.rd.2 hn
   refine⟨ad,e,by have:=hg.size;omega,fun j u hu=>?_⟩
   rw [← hc j u hu]
   refine World.cell?_of_block ?_
   rw [block_of_add]
   rw [hg.block _ (by omega) (fun e'=>h2 hn ad e e'.symm)]
   exact heap_alloc_old w o hb
 · have:=h1.lt hn e
   rcases hv with hv | hv
   · rw [hv];exact h2 hn ad e
   · rw [hv];intro e';injection e' with e';omega
theorem Tryz.infoObj:(Tryz.prog.info? 58).map (fun i=>(i.zero,i.size,i.bytes))=some (some (.agg #[.string ⟨#[]⟩,.int .u64 0,.int .i64 0,.int .u32 0,.int .i64 0,.int .u64 0,.slice none 0 0]),7,80):=by kernel_rfl
theorem Tryz.infoIntent:(Tryz.prog.info? 60).map (fun i=>(i.zero,i.size,i.bytes))=some (some (.agg #[.string ⟨#[]⟩,.int .u64 0,.int .i64 0,.int .u32 0,.int .i64 0,.int .u64 0,.slice none 0 0,.int .u64 0,.int .u64 0]),9,96):=by kernel_rfl
end
section
open Go.RowKit OctMath
theorem Tryz.infoSes:(Tryz.prog.info? 92).map (fun i=>(i.zero,i.size,i.bytes))=some (some (.agg #[.int .u64 0,.int .u64 0,.bool false,.int .u64 0,.int .i64 0]),5,40):=by kernel_rfl
end
section
open Go.RowKit OctMath
theorem Tryz.infoWas:(Tryz.prog.info? 52).map (fun i=>(i.zero,i.size,i.bytes))=some (some (.agg #[.int .u64 0,.int .i64 0,.int .u64 0,.int .i64 0]),4,32):=by kernel_rfl
end
section
open Go.RowKit OctMath
theorem Tryz.sizeMet:(Tryz.prog.info? 34).map (·.size)=some 14:=by kernel_rfl
structure SubL (lo:Nat) (l:List (Option Addr×Nat×List Int)) (w:World):Prop where
 all:∀m ∈ l,Lst lo 1 m.1 m.2.1 m.2.2.length (m.2.2.map iv) w
def ApL (y:Nat) (l:List (Option Addr×Nat×List Int)):Prop:=∀m ∈ l,Apart y m.2.2.length m.1
variable {lo lo':Nat} {l:List (Option Addr×Nat×List Int)} {w w':World}
theorem SubL.mono (h:SubL lo l w) (hl:lo'≤lo):SubL lo' l w:=⟨fun m hm=>(h.all m hm).mono hl⟩
theorem SubL.alloc (h:SubL lo l w) (o:Obj):SubL lo l (w.alloc o):=⟨fun m hm=>(h.all m hm).alloc o⟩
theorem SubL.only (h:SubL lo l w) {y:Nat} (ho:Only y w w') (ha:ApL y l):SubL lo l w':=⟨fun m hm=>(h.all m hm).only ho (ha m hm)⟩
def OM.row (m:OM):Option Addr×Nat×List Int:=(m.A,m.c,m.x.nodes)
def IM.row (m:IM):Option Addr×Nat×List Int:=(m.A,m.c,m.x.obj.nodes)
end
section
open Go.RowKit OctMath
open Go.ChangeShapes Go.WideShapes Go.Deep
section
variable {H:Type} {enc:TypeId×Value→H} {w:World} {base:Nat} {sp:Nat→Bool} {held:Bool}
structure CmdW (c:CmdT):Prop where
 kind:I64 c.kind
 client:c.client<18446744073709551616
 seq:c.seq<18446744073709551616
 key:∀y ∈ c.key,y<256
 size:I64 c.size
 sum:c.sum<4294967296
 version:c.version<18446744073709551616
 epoch:c.epoch<18446744073709551616
 group:I64 c.group
 node:I64 c.node
 id:IdOk c.id
 mep:c.mep<18446744073709551616
 mem:∀y ∈ c.mem,MemOk y
theorem CmdW.ok {c:CmdT} (h:CmdW c) (h1:c.key.length≤1048576) (h2:c.mem.length≤1048576):CmdOk c:=⟨h.kind,h.client,h.seq,⟨h.key,h1⟩,h.size,h.sum,h.version,h.epoch,h.group,h.node,h.id,h.mep,h.mem,h2⟩
structure EntW (x:EntT):Prop where
 index:x.index<18446744073709551616
 term:x.term<18446744073709551616
 kind:I64 x.kind
 cmd:CmdW x.cmd
 vot:∀y ∈ x.voters,I64 y
 lea:∀y ∈ x.learners,I64 y
theorem EntW.ok {x:EntT} (h:EntW x) (h1:x.cmd.key.length≤1048576) (h2:x.cmd.mem.length≤1048576) (h3:x.voters.length≤1048576) (h4:x.learners.length≤1048576):EntOk x:=⟨h.index,h.term,h.kind,h.cmd.ok h1 h2,⟨h.vot,h3⟩,⟨h.lea,h4⟩⟩
end
end
section
open Go.RowKit OctMath
theorem row_cells {α:Type} {cells:α→List Value} {size:Nat} (hl:∀a,(cells a).length=size) {w:World} {ad:Addr} {es:List α} (hr:∀j u,(es.flatMap cells)[j]?=some u→w.cell? (ad.add j)=some u) {k:Nat} (hk:k<es.length):∀j v,(cells es[k])[j]?=some v→w.cell? ((ad.add (k*size)).add j)=some v:=by
 intro j v hv
 have hj:j<size:=by rw [← hl es[k]];exact (List.getElem?_eq_some_iff.1 hv).1
 rw [Go.Deep.add_add]
 refine hr _ _ ?_
 rw [flat_get hl es k hk j hj]
 exact hv
end
section
open Go.RowKit OctMath
variable {σ:Type}
theorem getD_all {α:Type} {P:α→Prop} {l:List α} {z:α} (h:∀x ∈ l,P x) (hz:P z) (i:Nat):P (l.getD i z):=by
 rw [List.getD_eq_getElem?_getD]
 cases e:l[i]? with
 | none=>exact hz
 | some x=>exact h x (List.mem_of_getElem? e)
theorem getD_map' {α β:Type} (f:α→β) (l:List α) (z:α) (i:Nat):(l.map f).getD i (f z)=f (l.getD i z):=by
 rw [List.getD_eq_getElem?_getD,List.getD_eq_getElem?_getD,List.getElem?_map]
 cases l[i]? <;> rfl
abbrev Row:=Option Addr×Nat×List Int
structure InsL (M:Md σ) (hi:Nat) (l:List Row) (w:World):Prop where
 all:∀m ∈ l,Ls M 1 m.1 m.2.2.length (m.2.2.map iv) w∧(0<m.2.2.length→∀ad,m.1=some ad→ad.block<hi)
variable {M:Md σ} {hi lo b:Nat} {l:List Row} {w w':World} {s:σ} {v v':Value}
theorem InsL.call (h:InsL M hi l w) (k:Stp M w w'):InsL M hi l w':=⟨fun m hm=>⟨(h.all m hm).1.call k,(h.all m hm).2⟩⟩
theorem InsL.alloc (hM:MdOk M) (h:InsL M hi l w) (hs:M.St s w) (o:Obj):InsL M hi l (w.alloc o):=⟨fun m hm=>⟨(h.all m hm).1.alloc hM hs o,(h.all m hm).2⟩⟩
theorem InsL.only (hM:MdOk M) (h:InsL M hi l w) (hs:M.St s w) (ho:Only b w w') (hf:Free M b w) (ha:ApL b l):InsL M hi l w':=⟨fun m hm=>⟨(h.all m hm).1.only hM hs ho hf (ha m hm),(h.all m hm).2⟩⟩
theorem InsL.apart (h:InsL M hi l w) (hb:w.heap.size≤b):ApL b l:=fun m hm=>(h.all m hm).1.apart hb
theorem InsL.more (hM:MdOk M) {w0 w1:World} {t:TypeId} {size k:Nat} {xs:List Value} (h:Gr M w0 w1 t size v k xs s w) (hg:w.grownBy w' v.ownBlock) (hL:InsL M w1.heap.size l w):InsL M w1.heap.size l w':=⟨fun m hm=>⟨Ls.more hM h hg (hL.all m hm).1 (hL.all m hm).2,(hL.all m hm).2⟩⟩
structure Sbs (M:Md σ) (lo:Nat) (v:Value) (l:List Row) (w:World):Prop where
 all:∀m ∈ l,Lx M lo 1 m.1 m.2.1 m.2.2.length (m.2.2.map iv) w∧Off v m.2.2.length m.1
theorem Sbs.nil (M:Md σ) (lo:Nat) (v:Value) (w:World):Sbs M lo v [] w:=⟨fun m h=>by cases h⟩
theorem Sbs.call (h:Sbs M lo v l w) (k:Stp M w w'):Sbs M lo v l w':=⟨fun m hm=>⟨(h.all m hm).1.call k,(h.all m hm).2⟩⟩
theorem Sbs.alloc (hM:MdOk M) (h:Sbs M lo v l w) (hs:M.St s w) (o:Obj):Sbs M lo v l (w.alloc o):=⟨fun m hm=>⟨(h.all m hm).1.alloc hM hs o,(h.all m hm).2⟩⟩
theorem Sbs.only (hM:MdOk M) (h:Sbs M lo v l w) (hs:M.St s w) (ho:Only b w w') (hf:Free M b w) (ha:ApL b l):Sbs M lo v l w':=⟨fun m hm=>⟨⟨(h.all m hm).1.ls.only hM hs ho hf (ha m hm),(h.all m hm).1.lo,(h.all m hm).1.kc,(h.all m hm).1.cm⟩,(h.all m hm).2⟩⟩
theorem Sbs.apart (h:Sbs M lo v l w) (hb:w.heap.size≤b):ApL b l:=fun m hm=>(h.all m hm).1.ls.apart hb
theorem Sbs.more (hM:MdOk M) {w0 w1:World} {t:TypeId} {size k:Nat} {xs:List Value} (h:Gr M w0 w1 t size v k xs s w) (hg:w.grownBy w' v.ownBlock) (hv:v'.ownBlock=v.ownBlock∨v'.ownBlock=some w.heap.size) (hS:Sbs M lo v l w):Sbs M lo v' l w':=by
 refine⟨fun m hm=>?_⟩
 obtain⟨h1,h2⟩:=hS.all m hm
 refine⟨⟨h1.ls.grown hM h.wk.st hg h.free (fun hn ad e e'=>h2 hn ad e e'),h1.lo,h1.kc,h1.cm⟩,fun hn ad e=>?_⟩
 rcases hv with hv | hv
 · rw [hv];exact h2 hn ad e
 · have:=(h1.ls.free hn ad e).lt
   rw [hv];intro e';injection e' with e';omega
theorem Sbs.add {r:Row} (h:Sbs M lo v l w) (hr:Lx M lo 1 r.1 r.2.1 r.2.2.length (r.2.2.map iv) w∧Off v r.2.2.length r.1):Sbs M lo v (l ++ [r]) w:=⟨fun m hm=>by
 rcases List.mem_append.1 hm with hm | hm
 · exact h.all m hm
 · rw [List.mem_singleton.1 hm];exact hr⟩
structure LxL (M:Md σ) (lo:Nat) (l:List Row) (w:World):Prop where
 all:∀r ∈ l,Lx M lo 1 r.1 r.2.1 r.2.2.length (r.2.2.map iv) w
theorem LxL.call (h:LxL M lo l w) (k:Stp M w w'):LxL M lo l w':=⟨fun r hr=>(h.all r hr).call k⟩
theorem LxL.mono {lo':Nat} (h:LxL M lo l w) (hl:lo'≤lo):LxL M lo' l w:=⟨fun r hr=>(h.all r hr).mono hl⟩
theorem LxL.only (hM:MdOk M) (h:LxL M lo l w) (hs:M.St s w) (ho:Only b w w') (hf:Free M b w) (hb:b<lo):LxL M lo l w':=⟨fun r hr=>(h.all r hr).only hM hs ho hf hb⟩
theorem InsL.hi_ {hi':Nat} (h:InsL M hi l w) (hh:hi≤hi'):InsL M hi' l w:=⟨fun m hm=>⟨(h.all m hm).1,fun h0 ad e=>Nat.lt_of_lt_of_le ((h.all m hm).2 h0 ad e) hh⟩⟩
theorem Gr.off_new {w0 w1:World} {t:TypeId} {size k:Nat} {xs:List Value} (h:Gr M w0 w1 t size v k xs s w) {n:Nat} {A:Option Addr} (hl:0<n→∀ad,A=some ad→w.heap.size≤ad.block):Off v n A:=fun hn ad e e'=>by have:=(h.own.lt _ e').2;have:=hl hn ad e;omega
theorem wpl_gr3 (hM:MdOk M) {ops:Array Oper} {rest:List Oper} {o:Oper} {a:Act} {Q:Exit→Act→World→Prop} {w0 w1 wr:World} {te:TypeId} {size:Nat} {k:Nat} {xs:List Value} {st:σ} (hg:o.guard=none) (s x:Operand) (ts:TypeId) (z:Value) (bytes:Nat)
 (hts:Tryz.prog.underlying ts=some (.slice te)) (hinfo:(Tryz.prog.info? te).map (fun i=>(i.zero,i.size,i.bytes))=some (some z,size,bytes)) (hz:z.cells.size=size) (h0:0<size) (hb0:0<bytes)
 (ho:o.op = .call { callee := .builtin .append,args:=#[s,x],argTypes:=#[ts,ts] }) (hst:Gr M w0 w1 te size v k xs st wr) (hl:(k+1)*bytes≤140737488355328) (us:List Value) (hus:us.length=1*size) (hu:∀u ∈ us,u.oneCell'=true) (hs:a.eval s=v) (hx:a.eval x = .slice (some ⟨wr.heap.size,0,none⟩) 1 1)
 (h:∀v' w',Hid (Gr M w0 w1 te size v' (k+1) (xs ++ us) st w'∧(wr.alloc (.cells us.toArray te)).grownBy w' v.ownBlock)→Hid (v'.ownBlock=v.ownBlock∨v'.ownBlock=some (wr.alloc (.cells us.toArray te)).heap.size)→wpList Tryz.prog ops Q rest (a.put o.dst v') w'):wpList Tryz.prog ops Q (o :: rest) a (wr.alloc (.cells us.toArray te)):=by
 obtain⟨ii,q1,q2,q3,q4⟩:=info_parts hinfo
 have hst':=hst.alloc hM (.cells us.toArray te)
 have e:(wr.alloc (.cells us.toArray te)).heap.size=wr.heap.size+1:=by simp
 have hk:(k+1)≤maxLen:=by
  unfold maxLen
  have:(k+1)*1≤(k+1)*bytes:=Nat.mul_le_mul_left _ hb0
  omega
 exact wpList_append_any _ hg s x ts ho w1.heap.size te ii z size bytes hts q1 q2 q3 q4 hz h0 v k xs hs hst'.own (wr.heap.size+1) (some ⟨wr.heap.size,0,none⟩) 1 1 us hx (Reads.lit wr te us size 1 hus) hu hk hl (by have:=hst.hi;omega) (fun v' w' h1 h2 h3=>h v' w' (Lh ⟨hst'.more hM hst'.hi h1 h2 h3,h2⟩) (Lh h3))
theorem cells_below' {w:World} {p:Addr} {cs:List Value} (h:∀j v,cs[j]?=some v→w.cell? (p.add j)=some v) (hp:p.block<w.heap.size):∀W,Below w.heap.size w W→∀j v,cs[j]?=some v→W.cell? (p.add j)=some v:=fun W hb j v hv=>(hb.cell (p:=p.add j) (by rw [block_of_add];exact hp)).trans (h j v hv)
end
end Go.Proofs.YtdoneomahlfkbaaGreat
