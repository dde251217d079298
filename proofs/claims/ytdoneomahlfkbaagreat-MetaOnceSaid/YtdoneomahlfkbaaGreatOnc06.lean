/- THE METADATA AS A MACHINE: what holds of every state that commands make of a fresh one; what each step counts.; THE MACHINE: an object's chunks become -/
import Derived.Deep.RegionHeld3
import Derived.Test.YtdoneomahlfkbaaGreatOnc05
import Derived.Test.YtdoneomahlfkbaaGreatOnc03
set_option linter.unusedVariables false
set_option linter.unusedSimpArgs false
set_option maxRecDepth 100000
set_option maxHeartbeats 8000000
namespace Go.Proofs.YtdoneomahlfkbaaGreat
section
open OctMath
theorem put_le {K α:Type} {o:SOrd K} {key:α→K} (x:α):∀l:List α,(putR o key x l).length≤l.length+1
 | []=>by simp [putR]
 | y :: l=>by
   unfold putR
   split
   · have:=put_le (o:=o) (key:=key) x l;simp only [List.length_cons];omega
   · split <;> simp
theorem mem_putW {ws:List WasT} (h:Ris wasO (fun x=>x) ws) {w y:WasT}:y ∈ putR wasO (fun x=>x) w ws↔y=w∨y ∈ ws:=by
 rw [mem_put h]
 constructor
 · rintro (h1 | ⟨h1,_⟩)
   · exact .inl h1
   · exact .inr h1
 · rintro (h1 | h1)
   · exact .inl h1
   · by_cases e:y=w
     · exact .inl e
     · exact .inr ⟨h1,e⟩
theorem mem_foldW:∀ (l:List WasT) {ws:List WasT},Ris wasO (fun x=>x) ws→∀ {y:WasT},y ∈ l.foldl (fun l w=>putR wasO (fun x=>x) w l) ws↔y ∈ l∨y ∈ ws
 | [],ws,h,y=>by simp
 | w :: l,ws,h,y=>by
   rw [List.foldl_cons,mem_foldW l (ris_put h),mem_putW h,List.mem_cons]
   constructor
   · rintro (h1 | h1 | h1)
     · exact .inl (.inr h1)
     · exact .inl (.inl h1)
     · exact .inr h1
   · rintro ((h1 | h1) | h1)
     · exact .inr (.inl h1)
     · exact .inl h1
     · exact .inr (.inr h1)
theorem mem_waste {ws:List WasT} (h:Ris wasO (fun x=>x) ws) {o:ObjT} {y:WasT}:y ∈ wasteF ws o↔y ∈ wastesOf o∨y ∈ ws:=mem_foldW _ h
theorem of_waste {o:ObjT} {y:WasT} (h:y ∈ wastesOf o):y.id.ver=o.version∧y.id.ep=o.epoch:=by
 unfold wastesOf at h
 obtain⟨i,hi,rfl⟩:=List.mem_mapIdx.1 h
 exact⟨rfl,rfl⟩
theorem foldW_len:∀ (l:List WasT) {ws:List WasT},Ris wasO (fun x=>x) ws→l.Nodup→(∀w ∈ l,w ∉ ws)→(l.foldl (fun l w=>putR wasO (fun x=>x) w l) ws).length=ws.length+l.length
 | [],ws,_,_,_=>rfl
 | w :: l,ws,h,hn,hd=>by
   have h1:=List.nodup_cons.1 hn
   rw [List.foldl_cons,foldW_len l (ris_put h) h1.2 fun x hx hm=>by
    rcases (mem_putW h).1 hm with rfl | h2
    · exact h1.1 hx
    · exact hd x (List.mem_cons_of_mem _ hx) h2]
   rw [put_len h,if_pos ((find_none h).2 fun y hy e=>hd w List.mem_cons_self (by rw [← show y=w from e];exact hy)),List.length_cons]
   omega
theorem nodup_idx (v ep:Nat):∀ (l:List Int) (k:Nat),(l.mapIdx fun i nd=>(⟨⟨v,((i+k:Nat):Int),ep⟩,nd⟩:WasT)).Nodup∧∀w ∈ (l.mapIdx fun i nd=>(⟨⟨v,((i+k:Nat):Int),ep⟩,nd⟩:WasT)),(k:Int)≤w.id.idx
 | [],k=>⟨List.nodup_nil,fun w hw=>by cases hw⟩
 | x :: l,k=>by
   obtain⟨h1,h2⟩:=nodup_idx v ep l (k+1)
   have e:(fun i nd=>(⟨⟨v,((i+(k+1):Nat):Int),ep⟩,nd⟩:WasT))=fun i nd=>(⟨⟨v,((i+1+k:Nat):Int),ep⟩,nd⟩:WasT):=by
    funext i nd;rw [show i+(k+1)=i+1+k by omega]
   rw [e] at h1 h2
   rw [List.mapIdx_cons]
   refine⟨List.nodup_cons.2 ⟨fun hm=>?_,h1⟩,fun w hw=>?_⟩
   · have:=h2 _ hm
     simp only [Nat.zero_add] at this
     omega
   · rcases List.mem_cons.1 hw with rfl | hw
     · simp
     · have:=h2 w hw;omega
theorem nodup_wastes (o:ObjT):(wastesOf o).Nodup:=(nodup_idx o.version o.epoch o.nodes 0).1
theorem wastes_len (o:ObjT):(wastesOf o).length=o.nodes.length:=by unfold wastesOf;simp
structure Ext (m:MetT):Prop where
 cut:CutI m
 ep:m.mep≤m.last+1∧m.nep≤m.last+1
 wv:∀w ∈ m.wass,w.id.ver≤m.last
 wo:∀w ∈ m.wass,∀o ∈ m.objs,w.id.ver=o.version→w.id.ep<o.epoch
 wi:∀w ∈ m.wass,∀x ∈ m.ints,w.id.ver=x.obj.version→w.id.ep<x.obj.epoch
 sv:∀s ∈ m.sess,s.version≤m.last
 sc:∀s ∈ m.sess,s.opn=false→s.code=1∨s.code=2∨s.code=3
section
variable {P:PlF} {m:MetT}
theorem of_ok (h:Base P m) (ep:Nat):P.okM m.n (m.of ep)=true:=by
 unfold MetT.of
 split
 · exact h.map
 · exact h.next
theorem nodes_len (h:Base P m) {o:ObjT} (f:FitM P m o):(o.nodes.length:Int)=m.n:=by
 have g:=P.grpR o.key m.groups h.gs.1 h.gs.2
 rw [f.nodes]
 refine P.len (of_ok h _) (by have:=h.k;omega) (by have:=h.k;omega) (by rw [f.grp];exact g.1) (by rw [f.grp];have:=h.gs;omega)
theorem waste_cnt (h:Base P m) {o:ObjT} (f:FitM P m o) (hw:∀w ∈ m.wass,w.id.ver=o.version→w.id.ep<o.epoch):((wasteF m.wass o).length:Int)=m.wass.length+m.n:=by
 have e:(wasteF m.wass o).length=m.wass.length+(wastesOf o).length:=foldW_len _ h.wass (nodup_wastes o) fun w h1 h2=>by
  have:=of_waste h1
  have:=hw w h2 this.1
  omega
 have:=nodes_len h f
 rw [e,wastes_len]
 omega
theorem Ext.give (h:Base P m) (e:Ext m) {x:IntT} (hx:x ∈ m.ints):Ext (giveUpM m x):=by
 have hin:∀y ∈ (giveUpM m x).ints,y ∈ m.ints∧y.obj.version≠x.obj.version:=fun y hy=>(mem_drop_ h.ints).1 hy
 have hw:∀w ∈ (giveUpM m x).wass,w ∈ wastesOf x.obj∨w ∈ m.wass:=fun w h1=>(mem_waste h.wass).1 h1
 refine⟨⟨e.cut.o,fun y hy=>e.cut.i y (hin y hy).1⟩,e.ep,fun w h1=>?_,fun w h1 o ho hv=>?_,fun w h1 y hy hv=>?_,e.sv,e.sc⟩
 · rcases hw w h1 with h2 | h2
   · rw [(of_waste h2).1];exact (h.fitI x hx).last
   · exact e.wv w h2
 · rcases hw w h1 with h2 | h2
   · rw [(of_waste h2).1] at hv;exact absurd hv.symm (h.vers.oi o ho x hx)
   · exact e.wo w h2 o ho hv
 · rcases hw w h1 with h2 | h2
   · rw [(of_waste h2).1] at hv;exact absurd hv.symm (hin y hy).2
   · exact e.wi w h2 y (hin y hy).1 hv
theorem away_ext (h:Base P m) (e:Ext m) (key:List Nat):Ext (awayM m key).1:=by
 unfold awayM
 cases ef:findR bytO ObjT.key key m.objs with
 | none=>exact e
 | some o =>
   obtain⟨ho,hk⟩:=(find_some h.objs).1 ef
   have hin:∀y ∈ dropR bytO ObjT.key key m.objs,y ∈ m.objs∧y.key≠key:=fun y hy=>(mem_drop_ h.objs).1 hy
   have hw:∀w ∈ wasteF m.wass o,w ∈ wastesOf o∨w ∈ m.wass:=fun w h1=>(mem_waste h.wass).1 h1
   refine⟨⟨fun y hy=>e.cut.o y (hin y hy).1,e.cut.i⟩,e.ep,fun w h1=>?_,fun w h1 y hy hv=>?_,fun w h1 y hy hv=>?_,e.sv,e.sc⟩
   · rcases hw w h1 with h2 | h2
     · rw [(of_waste h2).1];exact (h.fitO o ho).last
     · exact e.wv w h2
   · rcases hw w h1 with h2 | h2
     · rw [(of_waste h2).1] at hv
       have:=h.vers.oo o ho y (hin y hy).1 hv
       subst this
       exact absurd hk (hin _ hy).2
     · exact e.wo w h2 y (hin y hy).1 hv
   · rcases hw w h1 with h2 | h2
     · rw [(of_waste h2).1] at hv;exact absurd hv (h.vers.oi o ho y hy)
     · exact e.wi w h2 y hy hv
theorem Ext.ses (h:Base P m) (e:Ext m) {s:SesT} (hv:s.version≤m.last) (hc:s.opn=false→s.code=1∨s.code=2∨s.code=3):Ext (putSess m s) :=
 ⟨⟨e.cut.o,e.cut.i⟩,e.ep,e.wv,e.wo,e.wi,fun t ht=>by
   rcases (mem_put h.sess).1 ht with rfl | ⟨h1,_⟩
   · exact hv
   · exact e.sv t h1,fun t ht=>by
   rcases (mem_put h.sess).1 ht with rfl | ⟨h1,_⟩
   · exact hc
   · exact e.sc t h1⟩
def cntM (m:MetT):Int:=m.n*((m.objs.length:Int)+m.ints.length)+m.wass.length
theorem drop_one {K α:Type} {o:SOrd K} {key:α→K} {l:List α} (h:Ris o key l) {x:α} (hx:x ∈ l):((dropR o key (key x) l).length:Int)=l.length - 1:=by
 have e:findR o key (key x) l=some x:=(find_some h).2 ⟨hx,rfl⟩
 have:=drop_len (k:=key x) h
 rw [e,if_neg (by simp)] at this
 have:=List.length_pos_of_mem hx
 omega
theorem give_cnt (h:Base P m) (e:Ext m) {x:IntT} (hx:x ∈ m.ints):cntM (giveUpM m x)=cntM m:=by
 have h1:=waste_cnt h (h.fitI x hx) (fun w hw=>e.wi w hw x hx)
 have h2:=drop_one h.ints hx
 show m.n*((m.objs.length:Int)+(dropR natO verI (verI x) m.ints).length)+(wasteF m.wass x.obj).length=_
 unfold cntM
 rw [h1,h2,show (m.objs.length:Int)+((m.ints.length:Int) - 1)=(m.objs.length:Int)+m.ints.length - 1 by omega,Int.mul_sub]
 omega
theorem away_cnt (h:Base P m) (e:Ext m) (key:List Nat):cntM (awayM m key).1=cntM m∧(awayM m key).1.n=m.n:=by
 unfold awayM
 cases ef:findR bytO ObjT.key key m.objs with
 | none=>exact⟨rfl,rfl⟩
 | some o =>
   obtain⟨ho,hk⟩:=(find_some h.objs).1 ef
   have h1:=waste_cnt h (h.fitO o ho) (fun w hw=>e.wo w hw o ho)
   have h2:=drop_one h.objs ho
   refine⟨?_,rfl⟩
   subst hk
   show m.n*(((dropR bytO ObjT.key o.key m.objs).length:Int)+m.ints.length)+(wasteF m.wass o).length=_
   unfold cntM
   rw [h1,h2,show ((m.objs.length:Int) - 1)+(m.ints.length:Int)=(m.objs.length:Int)+m.ints.length - 1 by omega,Int.mul_sub]
   omega
theorem ask_ext (h:Good P m) (e:Ext m) (c:CmdT) {m':MetT} (ha:askM m c = .inr m'):Ext m'∧cntM m'=cntM m∧m'.n=m.n∧(∀w ∈ m'.wass,w ∈ m.wass∨∃x ∈ m.ints,w.id.ver=x.obj.version):=by
 obtain⟨hb,hr,es,eo,el,hi,hbad,hor⟩:=ask_good h c ha
 rcases hor with rfl | ⟨x,hx,rfl⟩
 · exact⟨e,rfl,rfl,fun w hw => .inl hw⟩
 · exact⟨e.give h.base hx,give_cnt h.base e hx,rfl,fun w hw=>by
    rcases (mem_waste h.base.wass).1 hw with h2 | h2
    · exact .inr ⟨x,hx,(of_waste h2).1⟩
    · exact .inl h2⟩
structure Step (P:PlF) (m m':MetT) (given gone:Int):Prop where
 ext:Ext m'
 cnt:cntM m'+gone=cntM m+given
 n:m'.n=m.n
 last:m'.last=m.last
 il:m'.ints.length≤m.ints.length+1
 /-- where versions come from -/
 vo:∀o ∈ m'.objs,(∃y ∈ m.objs,y.version=o.version)∨∃x ∈ m.ints,x.obj.version=o.version
 vi:∀x ∈ m'.ints,x ∈ m.ints∨x.obj.version=m.last
theorem Step.none_ (e:Ext m):Step P m m 0 0:=⟨e,by omega,rfl,rfl,by omega,fun o ho => .inl ⟨o,ho,rfl⟩,fun x hx => .inl hx⟩
theorem drop_le {K α:Type} {o:SOrd K} {key:α→K} {l:List α} {k:K}:(dropR o key k l).length≤l.length:=drop_sub.length_le
theorem begin_step (h:Good P m) (hf:Fresh m) (hw:∀w ∈ m.wass,w.id.ver<m.last) (e:Ext m) (c:CmdT) (hk:c.kind=1) :
 Step P m (beginM P m c).1 (if (beginM P m c).2.version=m.last∧(beginM P m c).2.code=0 then m.n else 0) 0:=by
 unfold beginM
 cases ha:askM m c with
 | inl r =>
   have:¬ (r.version=m.last∧r.code=0):=by
    rintro⟨h1,h2⟩
    unfold askM at ha
    split at ha
    · injection ha with ha;subst ha;revert h2;decide
    · split at ha
      · cases ha
      · rename_i s hs
        obtain⟨hs1,hs2⟩:=(find_some h.base.sess).1 hs
        split at ha
        · injection ha with ha;subst ha;revert h2;decide
        split at ha
        · rename_i hso
          injection ha with ha;subst ha
          have:=e.sc s hs1 hso.2
          simp only at h2
          omega
        split at ha
        · split at ha <;> cases ha
        · cases ha
   dsimp only
   rw [if_neg this]
   exact Step.none_ e
 | inr m' =>
   obtain⟨hb,hr,es,eo,el,hi,hbad,hor⟩:=ask_good h c ha
   obtain⟨e',hcnt,hn,hwas⟩:=ask_ext h e c ha
   have hfi:∀x ∈ m'.ints,x.obj.version<m'.last:=by rw [el];exact fun x hx=>hf.i x (hi x hx)
   have hfw:∀w ∈ m'.wass,w.id.ver<m'.last:=fun w hw'=>by
    rw [el]
    rcases hwas w hw' with h1 | ⟨x,hx,h1⟩
    · exact hw w h1
    · rw [h1];exact hf.i x hx
   have hil:m'.ints.length≤m.ints.length:=by
    rcases hor with rfl | ⟨x,hx,rfl⟩
    · exact Nat.le_refl _
    · exact drop_le
   dsimp only
   rw [if_pos ⟨el,rfl⟩]
   have e2:Ext { m' with ints:=m'.ints ++ [⟨⟨c.key,m'.last,c.size,c.sum,P.grp c.key m'.groups,m'.nep,P.nds m'.next (P.grp c.key m'.groups) m'.n⟩,c.client,c.seq⟩] } :=
    ⟨⟨e'.cut.o,fun x hx=>by
      rcases List.mem_append.1 hx with hx | hx
      · exact e'.cut.i x hx
      · rw [List.mem_singleton.1 hx];exact fun _=>rfl⟩,e'.ep,e'.wv,e'.wo,fun w h1 x hx hv=>by
      rcases List.mem_append.1 hx with hx | hx
      · exact e'.wi w h1 x hx hv
      · rw [List.mem_singleton.1 hx] at hv
        have:w.id.ver<m'.last:=hfw w h1
        simp only at hv
        omega,e'.sv,e'.sc⟩
   refine⟨?_,?_,hn,el,?_,fun o ho => .inl ⟨o,by rw [← eo];exact ho,rfl⟩,fun x hx=>?_⟩
   · refine⟨⟨e2.cut.o,e2.cut.i⟩,e2.ep,e2.wv,e2.wo,e2.wi,fun t ht=>?_,fun t ht=>?_⟩
     · rcases (mem_put hb.sess).1 ht with rfl | ⟨h1,_⟩
       · exact Nat.le_refl _
       · exact e2.sv t h1
     · rcases (mem_put hb.sess).1 ht with rfl | ⟨h1,_⟩
       · intro h;cases h
       · exact e2.sc t h1
   · show m'.n*((m'.objs.length:Int)+(m'.ints ++ [_]).length)+m'.wass.length+0=_
     rw [← hcnt,hn]
     unfold cntM
     rw [hn,List.length_append,List.length_singleton,Int.natCast_add,← Int.add_assoc,Int.mul_add]
     simp only [Int.natCast_one,Int.mul_one]
     omega
   · show (m'.ints ++ [_]).length≤_
     rw [List.length_append,List.length_singleton];omega
   · rcases List.mem_append.1 hx with hx | hx
     · exact .inl (hi x hx)
     · rw [List.mem_singleton.1 hx];exact .inr el
theorem remove_step (h:Good P m) (e:Ext m) (c:CmdT):Step P m (removeM m c).1 0 0:=by
 unfold removeM
 cases ha:askM m c with
 | inl r=>exact Step.none_ e
 | inr m' =>
   obtain⟨hb,hr,es,eo,el,hi,hbad,hor⟩:=ask_good h c ha
   obtain⟨e',hcnt,hn,hwas⟩:=ask_ext h e c ha
   obtain⟨hb2,a1,a2,a3,a4⟩:=away_base hb c.key
   obtain⟨c1,c2⟩:=away_cnt hb e' c.key
   have e2:=away_ext hb e' c.key
   have hil:m'.ints.length≤m.ints.length:=by
    rcases hor with rfl | ⟨x,hx,rfl⟩
    · exact Nat.le_refl _
    · exact drop_le
   refine⟨e2.ses hb2 (Nat.zero_le _) (fun _=>?_),?_,c2.trans hn,a3.trans el,?_,fun o ho=>?_,fun x hx=>?_⟩
   · show (if (awayM m' c.key).2=true then (1:Int) else 2)=1∨(if (awayM m' c.key).2=true then (1:Int) else 2)=2∨_
     split <;> simp
   · show cntM (awayM m' c.key).1+0=_
     rw [c1,hcnt]
   · show (awayM m' c.key).1.ints.length≤_
     rw [a2];omega
   · have:o ∈ (awayM m' c.key).1.objs:=ho
     rw [a4] at this
     exact .inl ⟨o,by rw [← eo];exact ((mem_drop_ hb.objs).1 this).1,rfl⟩
   · have:x ∈ (awayM m' c.key).1.ints:=hx
     rw [a2] at this
     exact .inl (hi x this)
theorem abort_step (h:Good P m) (e:Ext m) (c:CmdT) (hf:Fresh m):Step P m (abortM m c).1 0 0:=by
 unfold abortM
 cases ef:findR natO verI c.version m.ints with
 | none=>exact Step.none_ e
 | some x =>
   obtain⟨hx,hv⟩:=(find_some h.base.ints).1 ef
   have hb:=h.base.give x
   have e1:=e.give h.base hx
   have hlt:=hf.i x hx
   refine⟨e1.ses hb (s:=⟨x.client,x.seq,false,c.version,3⟩) ?_ (fun _=>by simp),?_,rfl,rfl,?_,fun o ho => .inl ⟨o,ho,rfl⟩,fun y hy => .inl ((mem_drop_ h.base.ints).1 hy).1⟩
   · show c.version≤m.last
     have:x.obj.version=c.version:=hv
     omega
   · show cntM (giveUpM m x)+0=_
     rw [give_cnt h.base e hx]
   · show (dropR natO verI _ m.ints).length≤_
     have:=drop_le (o:=natO) (key:=verI) (l:=m.ints) (k:=x.obj.version)
     omega
theorem commit_step (h:Good P m) (e:Ext m) (c:CmdT) (hf:Fresh m):Step P m (commitM m c).1 0 0:=by
 unfold commitM
 cases ef:findR natO verI c.version m.ints with
 | none=>exact Step.none_ e
 | some x =>
   obtain⟨hx,hv⟩:=(find_some h.base.ints).1 ef
   have hlt:=hf.i x hx
   have hv':x.obj.version=c.version:=hv
   have hb1:Base P { m with ints:=dropR natO verI c.version m.ints }:=h.base.less (os:=m.objs) (ws:=m.wass) h.base.objs (ris_drop h.base.ints) h.base.wass (fun _ k=>k) (fun y hy=>((mem_drop_ h.base.ints).1 hy).1)
   have e1:Ext { m with ints:=dropR natO verI c.version m.ints }:=⟨⟨e.cut.o,fun y hy=>e.cut.i y ((mem_drop_ h.base.ints).1 hy).1⟩,e.ep,e.wv,e.wo,fun w hw y hy=>e.wi w hw y ((mem_drop_ h.base.ints).1 hy).1,e.sv,e.sc⟩
   have c0:cntM { m with ints:=dropR natO verI c.version m.ints }=cntM m - m.n:=by
    have h2:=drop_one h.base.ints hx
    rw [show verI x=c.version from hv] at h2
    show m.n*((m.objs.length:Int)+(dropR natO verI c.version m.ints).length)+m.wass.length=_
    unfold cntM
    rw [h2,show (m.objs.length:Int)+((m.ints.length:Int) - 1)=(m.objs.length:Int)+m.ints.length - 1 by omega,Int.mul_sub]
    omega
   obtain⟨hb2,a1,a2,a3,a4⟩:=away_base hb1 x.obj.key
   obtain⟨c1,c2⟩:=away_cnt hb1 e1 x.obj.key
   have e2:=away_ext hb1 e1 x.obj.key
   have hwx:∀w ∈ (awayM { m with ints:=dropR natO verI c.version m.ints } x.obj.key).1.wass,w.id.ver=x.obj.version→w.id.ep<x.obj.epoch:=by
    intro w hw hvw
    unfold awayM at hw
    dsimp only at hw
    split at hw
    · rename_i o hfo
      obtain⟨ho,hk⟩:=(find_some h.base.objs).1 hfo
      rcases (mem_waste h.base.wass).1 hw with h2 | h2
      · rw [(of_waste h2).1] at hvw;exact absurd hvw (h.base.vers.oi o ho x hx)
      · exact e.wi w h2 x hx hvw
    · exact e.wi w hw x hx hvw
   have hcx:x.obj.group ∈ (awayM { m with ints:=dropR natO verI c.version m.ints } x.obj.key).1.cut→x.obj.epoch=(awayM { m with ints:=dropR natO verI c.version m.ints } x.obj.key).1.nep:=by
    unfold awayM
    dsimp only
    split <;> exact e.cut.i x hx
   have hdrop:∀y ∈ (awayM { m with ints:=dropR natO verI c.version m.ints } x.obj.key).1.objs,y ∈ m.objs:=fun y hy=>by
    rw [a4] at hy;exact ((mem_drop_ h.base.objs).1 hy).1
   have hgone:findR bytO ObjT.key x.obj.key (awayM { m with ints:=dropR natO verI c.version m.ints } x.obj.key).1.objs=none:=by
    refine (find_none hb2.objs).2 fun y hy=>?_
    rw [a4] at hy
    exact ((mem_drop_ hb1.objs).1 hy).2
   dsimp only at *
   generalize (awayM { m with ints:=dropR natO verI c.version m.ints } x.obj.key).1=m1' at *
   have hpl:=put_len (x:=x.obj) hb2.objs
   rw [hgone,if_pos rfl] at hpl
   have e3:Ext { m1' with objs:=putR bytO ObjT.key x.obj m1'.objs } :=
    ⟨⟨fun o ho=>by
      rcases (mem_put hb2.objs).1 ho with rfl | ⟨h1,_⟩
      · exact hcx
      · exact e2.cut.o o h1,e2.cut.i⟩,e2.ep,e2.wv,fun w hw o ho=>by
      rcases (mem_put hb2.objs).1 ho with rfl | ⟨h1,_⟩
      · exact hwx w hw
      · exact e2.wo w hw o h1,e2.wi,e2.sv,e2.sc⟩
   refine⟨⟨⟨e3.cut.o,e3.cut.i⟩,e3.ep,e3.wv,e3.wo,e3.wi,fun t ht=>?_,fun t ht=>?_⟩,?_,c2,a3,?_,fun o ho=>?_,fun y hy=>?_⟩
   · rcases (mem_put hb2.sess).1 ht with rfl | ⟨h1,_⟩
     · show c.version≤m1'.last
       rw [a3];omega
     · exact e3.sv t h1
   · rcases (mem_put hb2.sess).1 ht with rfl | ⟨h1,_⟩
     · simp
     · exact e3.sc t h1
   · show m1'.n*(((putR bytO ObjT.key x.obj m1'.objs).length:Int)+m1'.ints.length)+m1'.wass.length+0=_
     rw [hpl]
     rw [show (((m1'.objs.length+1:Nat):Int)+m1'.ints.length)=((m1'.objs.length:Int)+m1'.ints.length)+1 by omega,Int.mul_add]
     unfold cntM at c1 c0 ⊢
     dsimp only at c1 c0
     rw [c2] at c1 ⊢
     omega
   · show m1'.ints.length≤_
     rw [a2]
     have:=drop_le (o:=natO) (key:=verI) (l:=m.ints) (k:=c.version)
     omega
   · rcases (mem_put hb2.objs).1 ho with rfl | ⟨h1,_⟩
     · exact .inr ⟨x,hx,rfl⟩
     · exact .inl ⟨o,hdrop o h1,rfl⟩
   · have:y ∈ m1'.ints:=hy
     rw [a2] at this
     exact .inl ((mem_drop_ h.base.ints).1 this).1
theorem coming_step (h:Good P m) (e:Ext m) (c:CmdT) (hl:m.last<9223372036854775808) (hep:m.mep≤m.last):Step P m (comingM P m c).1 0 0:=by
 unfold comingM
 split
 · rename_i hc
   obtain⟨h1,h2,h3⟩:=hc
   have hne:m.nep=m.mep:=by unfold MetT.moving at h1;simpa using h1
   have hmv:=h.base.mv
   rw [if_pos hne] at hmv
   refine⟨⟨⟨fun o ho hg=>?_,fun x hx hg=>?_⟩,⟨e.ep.1,?_⟩,e.wv,e.wo,e.wi,e.sv,e.sc⟩,rfl,rfl,rfl,Nat.le_succ _,fun o ho => .inl ⟨o,ho,rfl⟩,fun x hx => .inl hx⟩
   · have:o.group ∈ m.cut:=hg
     rw [hmv.2] at this;cases this
   · have:x.obj.group ∈ m.cut:=hg
     rw [hmv.2] at this;cases this
   · show c.mep≤m.last+1
     omega
 · exact Step.none_ e
theorem moved_step (h:Good P m) (e:Ext m) (c:CmdT) (hl:m.last<9223372036854775808):Step P m (movedM P m c).1 (if (movedM P m c).2.code=1 then m.n else 0) 0:=by
 unfold movedM
 cases ef:m.objs.find? (fun o=>o.version == c.version) with
 | none =>
   dsimp only
   rw [if_neg (by decide)]
   exact Step.none_ e
 | some o =>
   obtain⟨ho,hv⟩:=find_ver ef
   dsimp only
   split
   · rename_i hc
     obtain⟨h1,h2⟩:=hc
     rw [if_pos (show (whenC true).code=1 by decide)]
     have f:=h.base.fitO o ho
     have hlt:o.epoch<m.nep:=by
      have hmv:=h.base.mv
      have h3:=f.ep
      unfold MetT.of at h3
      have h4:=e.ep
      by_cases h5:o.epoch=m.mep
      · rw [h5]
        rw [if_neg (by rw [← h5,← h1];exact fun k=>h2 k.symm)] at hmv
        omega
      · rw [if_neg h5] at h3
        exact absurd (h3.trans h1.symm) h2
     have hfo:findR bytO ObjT.key o.key m.objs=some o:=(find_some h.base.objs).2 ⟨ho,rfl⟩
     have hpl:=put_len (x:=({ o with epoch:=c.epoch,nodes:=P.nds m.next o.group m.n }:ObjT)) h.base.objs
     rw [show findR bytO ObjT.key (ObjT.key { o with epoch:=c.epoch,nodes:=P.nds m.next o.group m.n }) m.objs=some o from hfo,if_neg (by simp)] at hpl
     have hwc:=waste_cnt h.base f (fun w hw=>e.wo w hw o ho)
     refine⟨⟨⟨fun y hy=>?_,e.cut.i⟩,e.ep,fun w hw=>?_,fun w hw y hy hvy=>?_,fun w hw x hx hvx=>?_,e.sv,e.sc⟩,?_,rfl,rfl,Nat.le_succ _,fun y hy=>?_,fun x hx => .inl hx⟩
     · rcases (mem_put h.base.objs).1 hy with rfl | ⟨k1,_⟩
       · exact fun _=>h1
       · exact e.cut.o y k1
     · rcases (mem_waste h.base.wass).1 hw with k | k
       · rw [(of_waste k).1];exact f.last
       · exact e.wv w k
     · rcases (mem_waste h.base.wass).1 hw with k | k
       · rcases (mem_put h.base.objs).1 hy with rfl | ⟨k1,k2⟩
         · rw [(of_waste k).2]
           show o.epoch<c.epoch
           omega
         · rw [(of_waste k).1] at hvy
           have:=h.base.vers.oo o ho y k1 hvy
           subst this
           exact absurd rfl k2
       · rcases (mem_put h.base.objs).1 hy with rfl | ⟨k1,k2⟩
         · have:=e.wo w k o ho hvy
           show w.id.ep<c.epoch
           omega
         · exact e.wo w k y k1 hvy
     · rcases (mem_waste h.base.wass).1 hw with k | k
       · rw [(of_waste k).1] at hvx;exact absurd hvx (h.base.vers.oi o ho x hx)
       · exact e.wi w k x hx hvx
     · show m.n*(((putR bytO ObjT.key _ m.objs).length:Int)+m.ints.length)+(wasteF m.wass o).length+0=_
       rw [hpl,hwc]
       unfold cntM
       omega
     · rcases (mem_put h.base.objs).1 hy with rfl | ⟨k1,_⟩
       · exact .inl ⟨o,ho,rfl⟩
       · exact .inl ⟨y,k1,rfl⟩
   · rw [if_neg (show ¬ (whenC false).code=1 by decide)]
     exact Step.none_ e
theorem cut_step (h:Good P m) (e:Ext m) (c:CmdT):Step P m (cutM m c).1 0 0:=by
 unfold cutM
 split
 · exact Step.none_ e
 rename_i hn
 split
 · exact Step.none_ e
 rename_i ha
 have ho:m.objs.any (oldM m c.group)=false:=by cases e:m.objs.any (oldM m c.group) <;> simp_all
 have hi:m.ints.any (fun x=>oldM m c.group x.obj)=false:=by cases e:m.ints.any (fun x=>oldM m c.group x.obj) <;> simp_all
 have hg:0≤c.group∧c.group<m.groups:=⟨by have:=fun k=>hn (.inr (.inl k));omega,by have:=fun k=>hn (.inr (.inr (.inl k)));omega⟩
 have old:∀ {o},oldM m c.group o=false→o.group=c.group→o.epoch=m.nep:=fun {o} h1 h2=>by
  unfold oldM at h1
  simp only [Bool.and_eq_false_iff,decide_eq_false_iff_not,ne_eq,Decidable.not_not] at h1
  rcases h1 with h1 | h1
  · exact absurd h2 h1
  · exact h1
 dsimp only
 split
 · exact⟨⟨⟨(fun o _ hg=>by cases hg),(fun x _ hg=>by cases hg)⟩,⟨e.ep.2,e.ep.2⟩,e.wv,e.wo,e.wi,e.sv,e.sc⟩,rfl,rfl,rfl,Nat.le_succ _,fun o ho => .inl ⟨o,ho,rfl⟩,fun x hx => .inl hx⟩
 · refine⟨⟨⟨fun o h1 hg'=>?_,fun x h1 hg'=>?_⟩,e.ep,e.wv,e.wo,e.wi,e.sv,e.sc⟩,rfl,rfl,rfl,Nat.le_succ _,fun o ho => .inl ⟨o,ho,rfl⟩,fun x hx => .inl hx⟩
   · rcases (mem_put h.base.cut).1 hg' with k | ⟨k,_⟩
     · exact old (List.any_eq_false.1 ho o h1 |> fun k=>by simpa using k) k
     · exact e.cut.o o h1 k
   · rcases (mem_put h.base.cut).1 hg' with k | ⟨k,_⟩
     · exact old (List.any_eq_false.1 hi x h1 |> fun k=>by simpa using k) k
     · exact e.cut.i x h1 k
theorem gone_step (h:Good P m) (e:Ext m) (c:CmdT):Step P m (goneM m c).1 0 (if (goneM m c).2.code=1 then 1 else 0):=by
 unfold goneM
 have hin:∀w ∈ dropR wasO (fun x=>x) ⟨c.id,c.node⟩ m.wass,w ∈ m.wass:=fun w hw=>((mem_drop_ h.base.wass).1 hw).1
 refine⟨⟨⟨e.cut.o,e.cut.i⟩,e.ep,fun w hw=>e.wv w (hin w hw),fun w hw=>e.wo w (hin w hw),fun w hw=>e.wi w (hin w hw),e.sv,e.sc⟩,?_,rfl,rfl,Nat.le_succ _,fun o ho => .inl ⟨o,ho,rfl⟩,fun x hx => .inl hx⟩
 have hd:=drop_len (k:=(⟨c.id,c.node⟩:WasT)) h.base.wass
 show m.n*((m.objs.length:Int)+m.ints.length)+(dropR wasO (fun x=>x) ⟨c.id,c.node⟩ m.wass).length+(if (whenC (decide ((dropR wasO (fun x=>x) ⟨c.id,c.node⟩ m.wass).length<m.wass.length))).code=1 then 1 else 0)=cntM m+0
 unfold cntM
 rw [hd]
 cases ef:findR wasO (fun x=>x) (⟨c.id,c.node⟩:WasT) m.wass with
 | none =>
   rw [if_pos rfl,decide_eq_false (by omega),if_neg (by decide)]
 | some w =>
   have:=List.length_pos_of_mem ((find_some h.base.wass).1 ef).1
   rw [if_neg (by simp),decide_eq_true (by omega),if_pos (by decide)]
   omega
theorem live_step (e:Ext m) (c:CmdT):Step P m (liveM m c).1 0 0:=by
 unfold liveM
 split
 · dsimp only
   split
   · exact⟨⟨⟨e.cut.o,e.cut.i⟩,e.ep,e.wv,e.wo,e.wi,e.sv,e.sc⟩,rfl,rfl,rfl,Nat.le_succ _,fun o ho => .inl ⟨o,ho,rfl⟩,fun x hx => .inl hx⟩
   · exact⟨⟨⟨e.cut.o,e.cut.i⟩,e.ep,e.wv,e.wo,e.wi,e.sv,e.sc⟩,rfl,rfl,rfl,Nat.le_succ _,fun o ho => .inl ⟨o,ho,rfl⟩,fun x hx => .inl hx⟩
 · exact Step.none_ e
def givenM (m:MetT) (c:CmdT) (r:ResT):Int:=(if c.kind=1∧r.version=m.last∧r.code=0 then m.n else 0)+(if c.kind=6∧r.code=1 then m.n else 0)
def goneN (c:CmdT) (r:ResT):Int:=if c.kind=8∧r.code=1 then 1 else 0
theorem step_step (h:Good P m) (hf:Fresh m) (hw:∀w ∈ m.wass,w.id.ver<m.last) (e:Ext m) (hep:m.mep≤m.last) (hl:m.last<9223372036854775808) (c:CmdT) :
 Step P m (stepM P m c).1 (givenM m c (stepM P m c).2) (goneN c (stepM P m c).2):=by
 unfold stepM
 by_cases k1:c.kind=1
 · rw [if_pos k1]
   have:=begin_step h hf hw e c k1
   have e1:givenM m c (beginM P m c).2=if (beginM P m c).2.version=m.last∧(beginM P m c).2.code=0 then m.n else 0:=by unfold givenM;simp [k1]
   have e2:goneN c (beginM P m c).2=0:=by unfold goneN;simp [k1]
   rw [e1,e2];exact this
 rw [if_neg k1]
 have g0:∀r,c.kind≠6→givenM m c r=0:=fun r k=>by unfold givenM;simp [k1,k]
 have n0:∀r,c.kind≠8→goneN c r=0:=fun r k=>by unfold goneN;simp [k]
 by_cases k2:c.kind=2
 · rw [if_pos k2,g0 _ (by omega),n0 _ (by omega)];exact commit_step h e c hf
 rw [if_neg k2]
 by_cases k3:c.kind=3
 · rw [if_pos k3,g0 _ (by omega),n0 _ (by omega)];exact abort_step h e c hf
 rw [if_neg k3]
 by_cases k4:c.kind=4
 · rw [if_pos k4,g0 _ (by omega),n0 _ (by omega)];exact remove_step h e c
 rw [if_neg k4]
 by_cases k5:c.kind=5
 · rw [if_pos k5,g0 _ (by omega),n0 _ (by omega)];exact coming_step h e c hl hep
 rw [if_neg k5]
 by_cases k6:c.kind=6
 · rw [if_pos k6,n0 _ (by omega)]
   have e1:givenM m c (movedM P m c).2=if (movedM P m c).2.code=1 then m.n else 0:=by unfold givenM;simp [k6]
   rw [e1];exact moved_step h e c hl
 rw [if_neg k6]
 by_cases k7:c.kind=7
 · rw [if_pos k7,g0 _ (by omega),n0 _ (by omega)];exact cut_step h e c
 rw [if_neg k7]
 by_cases k8:c.kind=8
 · rw [if_pos k8,g0 _ (by omega)]
   have e1:goneN c (goneM m c).2=if (goneM m c).2.code=1 then 1 else 0:=by unfold goneN;simp [k8]
   rw [e1];exact gone_step h e c
 rw [if_neg k8,]
 by_cases k9:c.kind=9
 · rw [if_pos k9,g0 _ (by omega),n0 _ (by omega)];exact live_step e c
 rw [if_neg k9,g0 _ (by omega),n0 _ (by omega)]
 exact Step.none_ e
structure Inv (P:PlF) (m:MetT):Prop where
 good:Good P m
 ext:Ext m
theorem Ext.later (e:Ext m) {l:Nat} (hl:m.last≤l):Ext { m with last:=l } :=
 ⟨⟨e.cut.o,e.cut.i⟩,⟨Nat.le_trans e.ep.1 (Nat.succ_le_succ hl),Nat.le_trans e.ep.2 (Nat.succ_le_succ hl)⟩,fun w hw=>Nat.le_trans (e.wv w hw) hl,e.wo,e.wi,fun s hs=>Nat.le_trans (e.sv s hs) hl,e.sc⟩
theorem apply_inv (h:Inv P m) {ix:Nat} (hl:m.last<ix) (hx:ix<9223372036854775808) (c:CmdT) :
 Inv P (applyM P m ix c).1∧Step P { m with last:=ix } (applyM P m ix c).1 (givenM { m with last:=ix } c (applyM P m ix c).2) (goneN c (applyM P m ix c).2)∧cntM { m with last:=ix }=cntM m:=by
 have s:=step_step (h.good.later (Nat.le_of_lt hl)) (h.good.fresh hl) (fun w hw=>Nat.lt_of_le_of_lt (h.ext.wv w hw) hl) (h.ext.later (Nat.le_of_lt hl)) (by have:=h.ext.ep.1;show m.mep≤ix;omega) hx c
 exact⟨⟨apply_good h.good hl c fun _=>h.ext.cut,s.ext⟩,s,rfl⟩
end
end
section
open Go.RowKit OctMath
def wsk (o:ObjT) (k:Nat) (ws:List WasT):List WasT:=((wastesOf o).take k).foldl (fun l w=>putR wasO (fun x=>x) w l) ws
theorem wsk_all (o:ObjT) (ws:List WasT):wsk o o.nodes.length ws=wasteF ws o:=by unfold wsk wasteF;rw [List.take_of_length_le (by rw [wastes_len];exact Nat.le_refl _)]
theorem wastes_at (o:ObjT) {k:Nat} (h:k<o.nodes.length):(wastesOf o)[k]'(by rw [wastes_len];exact h)=⟨⟨o.version,(k:Int),o.epoch⟩,o.nodes[k]⟩:=by unfold wastesOf;simp
theorem wsk_succ (o:ObjT) {k:Nat} (h:k<o.nodes.length) (ws:List WasT):wsk o (k+1) ws=putR wasO (fun x=>x) ⟨⟨o.version,(k:Int),o.epoch⟩,o.nodes[k]⟩ (wsk o k ws):=by
 unfold wsk
 rw [List.take_succ_eq_append_getElem (by rw [wastes_len];exact h),List.foldl_append,wastes_at o h]
 rfl
theorem ris_wsk {ws:List WasT} (h:Ris wasO (fun x=>x) ws) (o:ObjT) (k:Nat):Ris wasO (fun x=>x) (wsk o k ws):=by
 unfold wsk
 generalize (wastesOf o).take k=l
 induction l generalizing ws with
 | nil=>exact h
 | cons w l ih=>exact ih (ris_put h)
theorem wsk_len {ws:List WasT} (o:ObjT) (k:Nat):(wsk o k ws).length≤ws.length+k:=by
 have:∀ (l:List WasT) (ws:List WasT),(l.foldl (fun l w=>putR wasO (fun x=>x) w l) ws).length≤ws.length+l.length:=by
  intro l
  induction l with
  | nil=>intro ws;exact Nat.le_refl _
  | cons w l ih =>
    intro ws
    have h1:=ih (putR wasO (fun x=>x) w ws)
    have h2:(putR wasO (fun x=>x) w ws).length≤ws.length+1:=put_le w ws
    rw [List.foldl_cons,List.length_cons]
    omega
 have h:=this ((wastesOf o).take k) ws
 have h2:((wastesOf o).take k).length≤k:=List.length_take_le _ _
 unfold wsk
 omega
theorem waste_any (G:List Nat) (g:Nat) (m:MM) (o:OM) (w:World) (hM:Hid (MS G g m w)) (hr:Hid ((oRow o).In w)) (hf:Hid ((oRow o).Off g)) (hn:o.x.nodes.length≤255) (hR:Hid (Ris wasO (fun x=>x) m.x.wass)) (hl:m.x.wass.length+o.x.nodes.length≤33554432) :
 Calls Tryz.prog 65 #[.pointer (some ⟨g,0,none⟩),.agg (oA o)] w fun e w'=>e = .returned (.tuple #[])∧w.grownBy w' (some g)∧∃A c,MS G g (m.setW (wasteF m.x.wass o.x) A c) w':=by
 obtain⟨n,en⟩:∃n,o.x.nodes.length=n:=⟨_,rfl⟩
 have EN:=Lh en
 obtain⟨cs,ecs⟩:∃cs,oA o=cs:=⟨_,rfl⟩
 have hcs6:cs[6]?=some (.slice o.A n o.c):=by rw [← ecs,← en];rfl
 have HCZ:=Lh (show cs.size=7 from by rw [← ecs];rfl)
 have hch:=fun W h=>chunks_any o W h (by rw [en];omega)
 rw [en] at hn hl
 rw [ecs,en] at hch
 rw [ecs]
 have HCH:=Lh hch
 have HC6:=Lh hcs6
 have HGL:=Lh hM.out.blk.lt
 clear hch hcs6 ecs en
 go_enter Tryz.func65,Tryz.ntmps65
 go_wp2_with (refine wpl_load_blk rfl 58 (.tmp 3) rfl w.heap.size 58 cs _ rfl (Blk.new w _ _) Tryz.underlying58 rfl (by rw [HCZ.out];rfl) ?_)
 obtain⟨w1,ew1⟩:∃w1,w.alloc (.cells cs 58)=w1:=⟨_,rfl⟩
 have hb0:Below w.heap.size w (w.alloc (.cells cs 58)):=(Below.refl _ _).alloc (Nat.le_refl _) _
 have hB:=Blk.new w 58 cs
 have hs1:(w.alloc (.cells cs 58)).heap.size=w.heap.size+1:=by simp
 rw [ew1] at hb0 hB hs1 ⊢
 have HB0:=Lh hb0
 have HB:=Lh hB
 have HS1:=Lh hs1
 have HM1:=Lh (hM.out.later hb0)
 have HR1:=Lh (hr.out.later hb0)
 clear hb0 hB hs1 hM hr
 go_wp2_with (go_at_call 29;refine (HCH.out _ HR1).mono ?_;rintro e w2 ⟨v,rfl,ho,hb⟩;obtain⟨CA,cc,rfl,-,-⟩:=own_slice ho;have HO:=Lh (rowIn_own ho);have HB2:=Lh hb;clear ho hb)
 clear ew1
 have HM2:=Lh (HM1.out.later HB2.out)
 have HBX:=Lh (HB.out.below HB2.out HB.out.lt)
 have HR2:=Lh (HR1.out.later HB2.out)
 have HCK:=Lh HO.out.1
 have HCF:=Lh (HO.out.2 g (by have:=HGL.out;have:=HS1.out;omega))
 have HBL:=Lh (show w.heap.size<w2.heap.size from by have:=HB2.out.size;have:=HS1.out;omega)
 have HG2:=Lh (show g≠w.heap.size from Nat.ne_of_lt HGL.out)
 have HB02:=Lh (HB0.out.trans (HB2.out.mono HB0.out.size))
 clear HO HM1 HR1 HB HB2 HB0 HCH HS1
 go_loopw [10] (fun vi wr=>∃k:Nat,k≤n∧vi = .int .i64 k∧Hid (w2.grownBy wr (some g))∧Hid (∃A c,MS G g (m.setW (wsk o.x k m.x.wass) A c) wr)) (fun vi _=>n - (intOf vi).toNat)
 case atStart=>exact⟨0,Nat.zero_le _,rfl,Lh (gb_refl _ _),Lh ⟨m.WA,m.wc,HM2.out⟩⟩
 case round =>
  obtain⟨k,hk,rfl,HGB,HMR⟩:=hrel
  by_cases hlt:k<n
  · obtain⟨WA,wc,HMS⟩:=HMR.out
    have HMS:=Lh HMS
    clear HMR
    obtain⟨ws,ews⟩:∃ws,wsk o.x k m.x.wass=ws:=⟨_,rfl⟩
    have HWL:=Lh (show ws.length≤m.x.wass.length+k from by rw [← ews];exact wsk_len _ _)
    have HRW:=Lh (show Ris wasO (fun x=>x) ws from by rw [← ews];exact ris_wsk hR.out _ _)
    have hkl:k<o.x.nodes.length:=by rw [EN.out];exact hlt
    have HNX:=Lh (wsk_succ o.x hkl m.x.wass)
    obtain⟨nd,end_⟩:∃nd,o.x.nodes[k]=nd:=⟨_,rfl⟩
    rw [ews,end_] at HNX
    rw [ews] at HMS
    -- the chunk,the node
    have HR3:=Lh (HR2.out.grown hf.out HGB.out)
    have HCK3:=Lh (HCK.out.grown HCF.out HGB.out)
    have HBX3:=Lh (HBX.out.gb HGB.out (Ne.symm HG2.out))
    obtain⟨ca,rfl,hcab,hcc⟩:=elem_cells (cells:=ck1 o.x.version o.x.epoch) (K:=3) (fun _=>rfl) (ms:=List.range n) HCK3.out.rd (i:=k) (by simpa using hlt) (show 0<n by omega)
    rw [List.getElem_range] at hcc
    obtain⟨na,ena,hnab,hnc⟩:=HR3.out.rd.2 (by show 0<o.x.nodes.length;omega)
    have hnk:wr.cell? (na.add k)=some (.int .i64 nd):=hnc k _ (by show (o.x.nodes.map iv)[k]?=_;rw [List.getElem?_map,List.getElem?_eq_getElem hkl,end_];rfl)
    have HNK:=Lh hnk
    have HCC:=Lh hcc
    have HCA:=Lh hcab
    have HNA:=Lh (show na.block<wr.heap.size from hnab)
    have HEN:=Lh (show o.A=some na from ena)
    clear hnk hcc hcab hnc hnab ena end_ ews hkl
    go_wp2_with (first
     | (refine wpl_load_at rfl 46 (.tmp 13) rfl (ca.add (k*3)) (ck1 o.x.version o.x.epoch k) _ rfl HCC.out Tryz.underlying46 rfl rfl ?_)
     | (refine wpl_store_blk rfl 46 (.tmp 5) (.tmp 14) rfl wr.heap.size 46 _ #[.int .u64 (o.x.version:Int),.int .i64 (k:Int),.int .u64 (o.x.epoch:Int)] rfl rfl (Blk.new wr _ _) rfl Tryz.szCk rfl ?_;intro w4 hB4 hO4))
    have HB4:=Lh (show Below wr.heap.size wr w4 from ((Below.refl _ _).alloc (Nat.le_refl _) _).trans (hO4.out.below (Nat.le_refl _)))
    have HK4:=Lh hB4.out
    have HBX4:=Lh (HBX3.out.below HB4.out HBX3.out.lt)
    have HNK4:=Lh ((HB4.out.cell (p:=na.add k) (by rw [block_of_add];exact HNA.out)).trans HNK.out)
    have HMS4:=Lh (HMS.out.later HB4.out)
    have HL4:=Lh (show wr.heap.size<w4.heap.size from hB4.out.lt)
    clear hB4 hO4 HMS HBX3 HNK HCC HCA
    obtain⟨b5,e5⟩:∃b5,wr.heap.size=b5:=⟨_,rfl⟩
    have E5:=Lh e5
    rw [e5] at HK4 HL4 ⊢
    clear e5
    refine wp_region_late (S0:=fun w'=>Blk w' b5 46 #[.int .u64 (o.x.version:Int),.int .i64 (k:Int),.int .u64 (o.x.epoch:Int)]∧w'.cell? ⟨w.heap.size,6,none⟩=some (.slice (some na) n o.c)∧w'.cell? (na.add k)=some (.int .i64 nd)) (S:=fun _=>True) 8 9 (by kernel_rfl) rfl ⟨⟨HK4.out.drew,(HBX4.out.cell 6).trans (by rw [HC6.out,HEN.out]),HNK4.out⟩,trivial⟩ (fun wd hwd hH=>?_)
    have DW:=Lh (show Below w4.heap.size w4 wd from by rw [hwd];exact (Below.refl _ _).drew)
    clear hwd
    have HKD:=Lh (HK4.out.below DW.out HK4.out.lt)
    have HBXD:=Lh (HBX4.out.below DW.out HBX4.out.lt)
    have HMSD:=Lh (HMS4.out.later DW.out)
    have HND:=Lh (show na.block<wd.heap.size from by have:=HNA.out;have:=HL4.out;have:=DW.out.size;have:=E5.out;omega)
    have HBD:=Lh (HB4.out.trans (DW.out.mono HB4.out.size))
    clear HK4 HBX4 HMS4 DW HB4
    refine wpAnyT_stay 0 rfl (by kernel_rfl) (fun _ _ _ h=>h) (yields_load_blk rfl 46 (.tmp 5) rfl b5 46 #[.int .u64 (o.x.version:Int),.int .i64 (k:Int),.int .u64 (o.x.epoch:Int)] _ rfl (fun w' hw'=>hw'.1) Tryz.underlying46 rfl Tryz.szCk) ⟨hH.1,fun _=>hH.2⟩ ?_
    try simp only [Act.put,pA9,pZ9,pS9]
    refine tS 1 rfl ?_ hH ?_ ?_
    rotate_left
    · (intro wx hx;obtain⟨_,_,_⟩:=hx;go_simp <;> with_reducible rfl)
    try simp only [Act.put,pA9,pZ9,pS9]
    refine tS 2 rfl ?_ hH ?_ ?_
    rotate_left
    · (intro wx hx;obtain⟨_,_,_⟩:=hx;go_simp <;> with_reducible rfl)
    try simp only [Act.put,pA9,pZ9,pS9]
    refine tS 3 rfl ?_ hH ?_ ?_
    rotate_left
    · (intro wx hx;obtain⟨_,_,_⟩:=hx;go_simp <;> with_reducible rfl)
    try simp only [Act.put,pA9,pZ9,pS9]
    refine tS 4 rfl ?_ hH ?_ ?_
    rotate_left
    · (intro wx hx;obtain⟨_,_,_⟩:=hx;go_simp <;> with_reducible rfl)
    try simp only [Act.put,pA9,pZ9,pS9]
    refine tS 5 rfl ?_ hH ?_ ?_
    rotate_left
    · (intro wx hx;obtain⟨_,_,_⟩:=hx;go_simp <;> with_reducible rfl)
    try simp only [Act.put,pA9,pZ9,pS9]
    refine tS 6 rfl ?_ hH ?_ ?_
    rotate_left
    · (intro wx hx;obtain⟨_,_,_⟩:=hx;go_simp <;> with_reducible rfl)
    try simp only [Act.put,pA9,pZ9,pS9]
    refine wpAnyT_one 7 rfl (by kernel_rfl) (fun K hQ=>?_)
    go_simp
    refine hQ.out _ _ ?_ (fun hH7=>?_)
    · exact⟨⟨hH.1.1.alloc _,(World.cell?_alloc_lt wd _ _ HBXD.out.lt).trans hH.1.2.1,(World.cell?_alloc_lt wd _ _ (by rw [block_of_add];exact HND.out)).trans hH.1.2.2⟩,trivial⟩
    clear hQ K
    try simp only [Act.put,pA9,pZ9,pS9]
    refine wpAnyT_last 8 rfl (by kernel_rfl) (by decide) (fun K hQ=>?_)
    refine step_store_blk rfl 52 (.tmp 6) (.tmp 21) rfl wd.heap.size 52 _ (wasCs ⟨⟨o.x.version,(k:Int),o.x.epoch⟩,nd⟩) rfl rfl (Blk.new wd _ _) rfl rfl rfl ?_
    intro w6 hB6 hO6
    refine hQ.out _ _ ?_ (fun hH8=>?_)
    · exact⟨hO6.out.blk (hH.1.1.alloc _) (Nat.ne_of_lt hH.1.1.lt),(hO6.out.cell (p:=⟨w.heap.size,6,none⟩) (Nat.ne_of_lt HBXD.out.lt)).trans ((World.cell?_alloc_lt wd _ _ HBXD.out.lt).trans hH.1.2.1),(hO6.out.cell (p:=na.add k) (by rw [block_of_add];exact Nat.ne_of_lt HND.out)).trans ((World.cell?_alloc_lt wd _ _ (by rw [block_of_add];exact HND.out)).trans hH.1.2.2)⟩
    clear hQ K
    try simp only [Act.put,pA9,pZ9,pS9]
    refine wpAnyT_done (by kernel_rfl) ?_ _
    have HG6:=Lh (show g<wd.heap.size from HMSD.out.blk.lt)
    have HB6:=Lh (show Below wd.heap.size wd w6 from ((Below.refl _ _).alloc (Nat.le_refl _) _).trans (hO6.out.below (Nat.le_refl _)))
    have HW6:=Lh hB6.out
    have HMS6:=Lh (HMSD.out.later HB6.out)
    have HB56:=Lh (HBD.out.trans (HB6.out.mono HBD.out.size))
    clear hH hH7 hH8 hB6 hO6 HMSD HKD HBXD HNK4 HND HBD
    obtain⟨b6,e6⟩:∃b6,wd.heap.size=b6:=⟨_,rfl⟩
    rw [e6] at HW6 HG6 ⊢
    clear e6
    go_wp2_with fail
    refine wp_region_late (S0:=fun w'=>Blk w' b6 52 (wasCs ⟨⟨o.x.version,(k:Int),o.x.epoch⟩,nd⟩)) (S:=fun w'=>w'.cell? ⟨g,11,none⟩=some (.slice WA ws.length wc)) 13 14 (by kernel_rfl) rfl ⟨HW6.out.drew,HMS6.out.blk.cell 11⟩ (fun wz hwz hZ=>?_)
    have DW:=Lh (show Below w6.heap.size w6 wz from by rw [hwz];exact (Below.refl _ _).drew)
    clear hwz
    have HMZ:=Lh (HMS6.out.later DW.out)
    clear HMS6
    refine tS 0 rfl ?_ hZ ?_ ?_
    rotate_left
    · (intro wx hx;go_simp <;> with_reducible rfl)
    try simp only [Act.put,pA9,pZ9,pS9]
    refine tS 1 rfl ?_ hZ ?_ ?_
    rotate_left
    · (intro wx hx;go_simp <;> with_reducible rfl)
    try simp only [Act.put,pA9,pZ9,pS9]
    refine tS 2 rfl ?_ hZ ?_ ?_
    rotate_left
    · (intro wx hx;go_simp <;> with_reducible rfl)
    try simp only [Act.put,pA9,pZ9,pS9]
    refine tS 3 rfl ?_ hZ ?_ ?_
    rotate_left
    · (intro wx hx;go_simp <;> with_reducible rfl)
    try simp only [Act.put,pA9,pZ9,pS9]
    refine tS 4 rfl ?_ hZ ?_ ?_
    rotate_left
    · (intro wx hx;go_simp <;> with_reducible rfl)
    try simp only [Act.put,pA9,pZ9,pS9]
    refine wpAnyT_take 5 (v:=?_) rfl (by kernel_rfl) (fun _ _ _ h=>h) (Or.inl ⟨by rfl,?_⟩) hZ ?_
    rotate_left
    · (intro wx hx;go_simp <;> with_reducible rfl)
    try simp only [Act.put,pA9,pZ9,pS9]
    refine wpAnyT_stay 6 rfl (by kernel_rfl) (fun _ _ _ h=>h) (yields_load_blk rfl 52 (.tmp 6) rfl b6 52 (wasCs ⟨⟨o.x.version,(k:Int),o.x.epoch⟩,nd⟩) _ rfl (fun w' hw'=>hw') Tryz.underlying52 rfl rfl) ⟨hZ.1,fun _=>hZ.2⟩ ?_
    try simp only [Act.put,pA9,pZ9,pS9]
    refine wpAnyT_stay 7 rfl (by kernel_rfl) (fun _ _ _ h=>h) (yields_load_blk rfl 52 (.tmp 6) rfl b6 52 (wasCs ⟨⟨o.x.version,(k:Int),o.x.epoch⟩,nd⟩) _ rfl (fun w' hw'=>hw') Tryz.underlying52 rfl rfl) ⟨hZ.1,fun _=>hZ.2⟩ ?_
    try simp only [Act.put,pA9,pZ9,pS9]
    refine wpAnyT_one 8 rfl (by kernel_rfl) (fun K hQ=>?_)
    go_simp
    (go_at_call 71;refine (mkWas ⟨⟨o.x.version,(k:Int),o.x.epoch⟩,nd⟩ _).mono ?_;rintro e w8 ⟨rfl,hc8,hb8⟩)
    have HC8:=Lh hc8
    have HB8:=Lh hb8
    have HM8:=Lh (HMZ.out.later hb8)
    clear hc8 hb8
    refine hQ.out _ _ ?_ (fun hZ8=>?_)
    · exact⟨hZ.1.below HB8.out hZ.1.lt,HM8.out.blk.cell 11⟩
    clear hQ K
    try simp only [Act.put,pA9,pZ9,pS9]
    refine wpAnyT_one 9 rfl (by kernel_rfl) (fun K hQ=>?_)
    go_simp
    (go_at_call 97;refine (putWas WA ws.length wc ws ⟨⟨o.x.version,(k:Int),o.x.epoch⟩,nd⟩ wz.heap.size ⟨⟨o.x.version,(k:Int),o.x.epoch⟩,nd⟩ _ (Lh HM8.out.inn.rows.wass.rd) (Lh rfl) (by have:=HWL.out;omega) HC8 (Lh fun _ _=>trivial) trivial).mono ?_;rintro e w9 ⟨v9,rfl,ho9,hb9⟩)
    rw [show fL (cmpWas ⟨⟨o.x.version,(k:Int),o.x.epoch⟩,nd⟩) ws=fL (cmpO wasO (fun x=>x) ((fun x:WasT=>x) ⟨⟨o.x.version,(k:Int),o.x.epoch⟩,nd⟩)) ws from rfl,putB_eq HRW.out ⟨⟨o.x.version,(k:Int),o.x.epoch⟩,nd⟩] at ho9
    obtain⟨A9,c9,rfl,h91,h92⟩:=own_slice ho9
    have HO9:=Lh (rowIn_own ho9)
    have HB9:=Lh hb9
    have HM9:=Lh (HM8.out.later hb9)
    have HB89:=Lh (HB8.out.trans (hb9.mono HB8.out.size))
    have z0:w9.cell? ⟨g,11,none⟩=some (.slice WA ws.length wc):=HM9.out.blk.cell 11
    have z1:w9.frozen? ⟨g,11,none⟩=false:=HM9.out.blk.frozen 11
    clear ho9 hb9
    refine hQ.out _ _ ?_ (fun hZ9=>?_)
    · exact⟨hZ.1.below HB89.out hZ.1.lt,z0⟩
    clear hQ K
    try simp only [Act.put,pA9,pZ9,pS9]
    refine tS 10 rfl ?_ hZ9 ?_ ?_
    rotate_left
    · (intro wx hx;go_simp <;> with_reducible rfl)
    try simp only [Act.put,pA9,pZ9,pS9]
    refine tS 11 rfl ?_ hZ9 ?_ ?_
    rotate_left
    · (intro wx hx;go_simp <;> with_reducible rfl)
    try simp only [Act.put,pA9,pZ9,pS9]
    refine tS 12 rfl ?_ hZ9 ?_ ?_
    rotate_left
    · (intro wx hx;go_simp <;> with_reducible rfl)
    try simp only [Act.put,pA9,pZ9,pS9]
    refine wpAnyT_last 13 rfl (by kernel_rfl) (by decide) (fun K hQ=>?_)
    go_simp
    refine hQ.out _ _ ?_ (fun hZ13=>?_)
    · exact hZ9.1.far (Nat.ne_of_gt (show g<b6 from by have:=HG6.out;exact this)) _
    clear hQ K
    try simp only [Act.put,pA9,pZ9,pS9]
    refine wpAnyT_done (by kernel_rfl) ?_ _
    have GS:=Lh (HM9.out.blk.set_ 11 (.slice A9 (putR wasO (fun x=>x) ⟨⟨o.x.version,(k:Int),o.x.epoch⟩,nd⟩ ws).length c9))
    have OS:=Lh (Only.set_ w9 g 11 (.slice A9 (putR wasO (fun x=>x) ⟨⟨o.x.version,(k:Int),o.x.epoch⟩,nd⟩ ws).length c9))
    obtain⟨wx,hwx⟩:∃wx,w9.setCell ⟨g,11,none⟩ (.slice A9 (putR wasO (fun x=>x) ⟨⟨o.x.version,(k:Int),o.x.epoch⟩,nd⟩ ws).length c9)=wx:=⟨_,rfl⟩
    rw [hwx] at GS OS ⊢
    clear hwx z0 z1 hZ hZ8 hZ9 hZ13
    have HX:=Lh (HM9.out.setW (gb_only OS.out) GS.out (HO9.out.1.grown (HO9.out.2 g (by have:=HM8.out.blk.lt;omega)) (gb_only OS.out)) (fun q hq=>HO9.out.2 q (HM8.out.lt q hq)) (by have:=put_le (o:=wasO) (key:=fun x=>x) ⟨⟨o.x.version,(k:Int),o.x.epoch⟩,nd⟩ ws;have:=HWL.out;omega))
    have HGX:=Lh (gb_trans (gb_trans (gb_trans (gb_trans HGB.out (gb_below HB56.out _)) (gb_below DW.out _)) (gb_below HB89.out _)) (gb_only OS.out))
    go_wp2_with fail
    exact⟨⟨k+1,by omega,by go_num,HGX,Lh ⟨A9,c9,by rw [HNX.out];exact HX.out⟩⟩,by simp [intOf];omega⟩
  · obtain rfl:n=k:=by omega
    obtain⟨WA,wc,HMS⟩:=HMR.out
    have HMS:=Lh HMS
    have HE:=Lh (show wsk o.x n m.x.wass=wasteF m.x.wass o.x from by rw [← EN.out];exact wsk_all _ _)
    clear HMR
    go_wp2
    go_end0
    refine⟨rfl,gb_trans (gb_below HB02.out _) HGB.out,WA,wc,?_⟩
    have:=HMS.out
    rw [HE.out] at this
    exact this
end
end Go.Proofs.YtdoneomahlfkbaaGreat
