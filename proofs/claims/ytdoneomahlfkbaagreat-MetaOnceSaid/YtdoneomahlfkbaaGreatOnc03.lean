/- A STATE IN MEMORY, in a machine or by itself: which rows hold it, and what stays; An object's chunks; A DRAWN REGION ONE OF WHOSE OPERATIONS (a store) -/
import Derived.Test.YtdoneomahlfkbaaGreatRows
import Derived.Deep.RegionHeld3
import Derived.Test.YtdoneomahlfkbaaGreatOnc02
import Derived.Test.YtdoneomahlfkbaaGreatOnc01
set_option linter.unusedVariables false
set_option linter.unusedSimpArgs false
set_option maxRecDepth 100000
set_option maxHeartbeats 4000000
namespace Go.Proofs.YtdoneomahlfkbaaGreat
section
open Go.RowKit OctMath
structure RowT where
 K:Nat
 A:Option Addr
 c:Nat
 n:Nat
 C:List Value
structure RowT.In (r:RowT) (w:World):Prop where
 rd:Reads w w.heap.size r.K r.A r.n r.C
 nc:r.n≤r.c
 cm:r.c≤maxLen
def RowT.Off (r:RowT) (g:Nat):Prop:=0<r.n→∀ad,r.A=some ad→ad.block≠g
theorem RowT.In.later {r:RowT} {w w':World} (h:r.In w) (hb:Below w.heap.size w w'):r.In w':=⟨h.rd.later hb,h.nc,h.cm⟩
theorem RowT.In.grown {r:RowT} {w w':World} {g:Nat} (h:r.In w) (ho:r.Off g) (hb:w.grownBy w' (some g)):r.In w' :=
 ⟨⟨h.rd.1,fun hn=>by
   obtain⟨ad,e,hl,hc⟩:=h.rd.2 hn
   refine⟨ad,e,Nat.lt_of_lt_of_le hl hb.size,fun j u hu=>?_⟩
   rw [← hc j u hu]
   refine World.cell?_of_block (hb.block _ (by rw [block_of_add];exact hl) fun e'=>?_)
   rw [block_of_add] at e'
   injection e' with e'
   exact ho hn ad e e'⟩,h.nc,h.cm⟩
theorem RowT.In.off {r:RowT} {w:World} (h:r.In w) {g:Nat} (hg:w.heap.size≤g):r.Off g:=fun hn ad e=>by
 obtain⟨ad',e',hl,_⟩:=h.rd.2 hn
 rw [e] at e'
 injection e' with e'
 subst e'
 omega
theorem rowIn_own {w:World} {base K n c:Nat} {t:TypeId} {A:Option Addr} {C:List Value} (h:w.ownsRow base t K (.slice A n c) n C):(⟨K,A,c,n,C⟩:RowT).In w∧∀g,g<base→(⟨K,A,c,n,C⟩:RowT).Off g:=by
 obtain⟨A',c',e,h1,h2⟩:=own_slice h
 injection e with e1 _ e2
 subst e1
 subst e2
 refine⟨⟨Reads.of_own h,h1,h2⟩,fun g hg hn ad e=>?_⟩
 obtain⟨g',cap',e',hb,_⟩:=h.form hn
 injection e' with e1 _ _
 have e1':A=some ⟨g',0,none⟩:=e1
 have e2':A=some ad:=e
 rw [e1'] at e2'
 injection e2' with e2'
 rw [← e2']
 show g'≠g
 omega
theorem gb_refl (w:World) (r:Option Nat):w.grownBy w r:=World.grownBy.refl w r
theorem gb_trans {a b c:World} {r:Option Nat} (h:a.grownBy b r) (k:b.grownBy c r):a.grownBy c r:=⟨k.os.trans h.os,k.tape.trans h.tape,k.output.trans h.output,Nat.le_trans h.size k.size,fun i hi hr=>(k.block i (Nat.lt_of_lt_of_le hi h.size) hr).trans (h.block i hi hr)⟩
theorem gb_below {a b:World} (h:Below a.heap.size a b) (r:Option Nat):a.grownBy b r:=⟨h.os,h.tape,h.output,h.size,fun i hi _=>h.block i hi⟩
theorem gb_only {a b:World} {g:Nat} (h:Only g a b):a.grownBy b (some g):=h.grown
theorem gb_new {w0 a b:World} {base g:Nat} (h:Below base w0 a) (hg:base≤g) (hb:base≤a.heap.size) (k:a.grownBy b (some g)):Below base w0 b :=
 ⟨k.os.trans h.os,k.tape.trans h.tape,k.output.trans h.output,Nat.le_trans h.size k.size,fun i hi=>(k.block i (by omega) (fun e=>by injection e with e;omega)).trans (h.block i hi)⟩
theorem Blk.gb {w w':World} {g k:Nat} {t:TypeId} {cs:Array Value} (h:Blk w k t cs) (hb:w.grownBy w' (some g)) (hk:k≠g):Blk w' k t cs:=h.grown hb (fun e=>by injection e with e;exact hk e)
def oRow (o:OM):RowT:=⟨1,o.A,o.c,o.x.nodes.length,o.x.nodes.map iv⟩
def iRow (o:IM):RowT:=⟨1,o.A,o.c,o.x.obj.nodes.length,o.x.obj.nodes.map iv⟩
def MM.map (m:MM):RowT:=⟨2,m.MA,m.mc,m.x.mem.length,mcells m.x.mem⟩
def MM.next (m:MM):RowT:=⟨2,m.NA,m.nc,m.x.nem.length,mcells m.x.nem⟩
def MM.cut (m:MM):RowT:=⟨1,m.CA,m.cc,m.x.cut.length,m.x.cut.flatMap i1⟩
def MM.objs (m:MM):RowT:=⟨7,m.OA,m.oc,m.x.objs.length,m.os.flatMap omCs⟩
def MM.ints (m:MM):RowT:=⟨9,m.IA,m.ic,m.x.ints.length,m.is.flatMap imCs⟩
def MM.sess (m:MM):RowT:=⟨5,m.SA,m.sc,m.x.sess.length,m.x.sess.flatMap sesL⟩
def MM.wass (m:MM):RowT:=⟨4,m.WA,m.wc,m.x.wass.length,m.x.wass.flatMap wasL⟩
def MM.down (m:MM):RowT:=⟨1,m.DA,m.dc,m.x.down.length,m.x.down.flatMap i1⟩
def MM.rows (m:MM):List RowT:=[m.map,m.next,m.cut,m.objs,m.ints,m.sess,m.wass,m.down]
structure MM.All (m:MM) (Q:RowT→Prop):Prop where
 top:∀r ∈ m.rows,Q r
 os:∀o ∈ m.os,Q (oRow o)
 is:∀o ∈ m.is,Q (iRow o)
theorem MM.All.imp {m:MM} {Q R:RowT→Prop} (h:m.All Q) (hi:∀r,Q r→R r):m.All R:=⟨fun r k=>hi r (h.top r k),fun r k=>hi _ (h.os r k),fun r k=>hi _ (h.is r k)⟩
theorem MM.All.and {m:MM} {Q R:RowT→Prop} (h:m.All Q) (k:m.All R):m.All (fun r=>Q r∧R r):=⟨fun r i=>⟨h.top r i,k.top r i⟩,fun r i=>⟨h.os r i,k.os r i⟩,fun r i=>⟨h.is r i,k.is r i⟩⟩
section
variable {m:MM} {Q:RowT→Prop} (h:m.All Q)
theorem MM.All.map (h:m.All Q):Q m.map:=h.top _ (by simp [MM.rows])
theorem MM.All.next (h:m.All Q):Q m.next:=h.top _ (by simp [MM.rows])
theorem MM.All.cut (h:m.All Q):Q m.cut:=h.top _ (by simp [MM.rows])
theorem MM.All.objs (h:m.All Q):Q m.objs:=h.top _ (by simp [MM.rows])
theorem MM.All.ints (h:m.All Q):Q m.ints:=h.top _ (by simp [MM.rows])
theorem MM.All.sess (h:m.All Q):Q m.sess:=h.top _ (by simp [MM.rows])
theorem MM.All.wass (h:m.All Q):Q m.wass:=h.top _ (by simp [MM.rows])
theorem MM.All.down (h:m.All Q):Q m.down:=h.top _ (by simp [MM.rows])
end
theorem MM.All.mk' {m:MM} {Q:RowT→Prop} (h1:Q m.map) (h2:Q m.next) (h3:Q m.cut) (h4:Q m.objs) (h5:Q m.ints) (h6:Q m.sess) (h7:Q m.wass) (h8:Q m.down) (ho:∀o ∈ m.os,Q (oRow o)) (hi:∀o ∈ m.is,Q (iRow o)):m.All Q :=
 ⟨fun r hr=>by
  simp only [MM.rows,List.mem_cons,List.not_mem_nil,or_false] at hr
  rcases hr with rfl | rfl | rfl | rfl | rfl | rfl | rfl | rfl <;> assumption,ho,hi⟩
structure MWf (x:MetT):Prop where
 ok:∀y ∈ x.objs,Byt y.key
 ik:∀y ∈ x.ints,Byt y.obj.key
 ol:x.objs.length≤16777216
 il:x.ints.length≤16777216
 sl:x.sess.length≤16777216
 wl:x.wass.length≤33554432
 cl:x.cut.length≤16777216
 dl:x.down.length≤16777216
structure MIn (m:MM) (w:World):Prop where
 rows:m.All (·.In w)
 os:m.os.map (·.x)=m.x.objs
 is:m.is.map (·.x)=m.x.ints
 wf:MWf m.x
theorem MIn.later {m:MM} {w w':World} (h:MIn m w) (hb:Below w.heap.size w w'):MIn m w':=⟨h.rows.imp fun _ k=>k.later hb,h.os,h.is,h.wf⟩
structure MS (G:List Nat) (g:Nat) (m:MM) (w:World):Prop where
 blk:Blk w g 72 m.cs
 inn:MIn m w
 off:∀k ∈ G,m.All (·.Off k)
 mem:g ∈ G
 lt:∀k ∈ G,k<w.heap.size
theorem MS.later {G:List Nat} {g:Nat} {m:MM} {w w':World} (h:MS G g m w) (hb:Below w.heap.size w w'):MS G g m w':=⟨h.blk.below hb h.blk.lt,h.inn.later hb,h.off,h.mem,fun k hk=>Nat.lt_of_lt_of_le (h.lt k hk) hb.size⟩
theorem MS.turn {G:List Nat} {g:Nat} {m m':MM} {w w':World} (h:MS G g m w) (hb:w.grownBy w' (some g)) (hB:Blk w' g 72 m'.cs) (hr:m'.All fun r=>(r.In w'∧∀k ∈ G,r.Off k)∨(r.In w∧∀k ∈ G,r.Off k)) (ho:m'.os.map (·.x)=m'.x.objs) (hi:m'.is.map (·.x)=m'.x.ints) (hw:MWf m'.x):MS G g m' w' :=
 ⟨hB,⟨hr.imp fun r k=>k.elim (·.1) fun k=>k.1.grown (k.2 g h.mem) hb,ho,hi,hw⟩,fun k hk=>hr.imp fun r q=>q.elim (·.2 k hk) (·.2 k hk),h.mem,fun k hk=>Nat.lt_of_lt_of_le (h.lt k hk) hb.size⟩
theorem MS.old {G:List Nat} {g:Nat} {m:MM} {w:World} (h:MS G g m w):m.All fun r=>r.In w∧∀k ∈ G,r.Off k :=
 ⟨fun r k=>⟨h.inn.rows.top r k,fun q hq=>(h.off q hq).top r k⟩,fun r k=>⟨h.inn.rows.os r k,fun q hq=>(h.off q hq).os r k⟩,fun r k=>⟨h.inn.rows.is r k,fun q hq=>(h.off q hq).is r k⟩⟩
theorem MS.add {G:List Nat} {g:Nat} {m:MM} {w w':World} (h:MS G g m w) (hb:Below w.heap.size w w') {k:Nat} (h1:w.heap.size≤k) (h2:k<w'.heap.size):MS (k :: G) g m w' :=
 have h':=h.later hb
 ⟨h'.blk,h'.inn,fun q hq=>by
  rcases List.mem_cons.1 hq with rfl | hq
  · exact h.inn.rows.imp fun r hr=>hr.off h1
  · exact h.off q hq,List.mem_cons_of_mem _ h.mem,fun q hq=>by
  rcases List.mem_cons.1 hq with rfl | hq
  · exact h2
  · exact h'.lt q hq⟩
theorem MS.sub {G:List Nat} {g k:Nat} {m:MM} {w w':World} (h:MS (k :: G) g m w) (ho:Only k w w') (hg:g≠k) (hgG:g ∈ G):MS G g m w' :=
 ⟨ho.blk h.blk hg,⟨⟨fun r hr=>(h.inn.rows.top r hr).grown ((h.off k List.mem_cons_self).top r hr) ho.grown,fun r hr=>(h.inn.rows.os r hr).grown ((h.off k List.mem_cons_self).os r hr) ho.grown,fun r hr=>(h.inn.rows.is r hr).grown ((h.off k List.mem_cons_self).is r hr) ho.grown⟩,h.inn.os,h.inn.is,h.inn.wf⟩,fun q hq=>h.off q (List.mem_cons_of_mem _ hq),hgG,fun q hq=>by rw [ho.size];exact h.lt q (List.mem_cons_of_mem _ hq)⟩
theorem gb_fresh {w a b:World} {r:Option Nat} {k:Nat} (h:w.grownBy a r) (o:Only k a b) (hk:w.heap.size≤k):w.grownBy b r :=
 ⟨o.os.trans h.os,o.tape.trans h.tape,o.output.trans h.output,by rw [o.size];exact h.size,fun i hi hr=>(o.block i (by omega)).trans (h.block i hi hr)⟩
theorem flat_i1 (xs:List Int):xs.flatMap i1=xs.map iv:=by
 induction xs with
 | nil=>rfl
 | cons x l ih=>rw [List.flatMap_cons,ih];rfl
theorem MIn.okeys {m:MM} {w:World} (h:MIn m w):∀o ∈ m.os,Byt o.x.key:=fun o ho=>h.wf.ok o.x (by rw [← h.os];exact List.mem_map.2 ⟨o,ho,rfl⟩)
theorem MIn.ikeys {m:MM} {w:World} (h:MIn m w):∀o ∈ m.is,Byt o.x.obj.key:=fun o ho=>h.wf.ik o.x (by rw [← h.is];exact List.mem_map.2 ⟨o,ho,rfl⟩)
theorem MIn.olen {m:MM} {w:World} (h:MIn m w):m.os.length=m.x.objs.length:=by rw [← h.os,List.length_map]
theorem MIn.ilen {m:MM} {w:World} (h:MIn m w):m.is.length=m.x.ints.length:=by rw [← h.is,List.length_map]
def MM.setW (m:MM) (ws:List WasT) (A:Option Addr) (c:Nat):MM:={ m with x:={ m.x with wass:=ws },WA:=A,wc:=c }
def MM.setI (m:MM) (is:List IM) (A:Option Addr) (c:Nat):MM:={ m with x:={ m.x with ints:=is.map (·.x) },IA:=A,ic:=c,is:=is }
def MM.setO (m:MM) (os:List OM) (A:Option Addr) (c:Nat):MM:={ m with x:={ m.x with objs:=os.map (·.x) },OA:=A,oc:=c,os:=os }
def MM.setS (m:MM) (ss:List SesT) (A:Option Addr) (c:Nat):MM:={ m with x:={ m.x with sess:=ss },SA:=A,sc:=c }
def MM.setCut (m:MM) (cs:List Int) (A:Option Addr) (c:Nat):MM:={ m with x:={ m.x with cut:=cs },CA:=A,cc:=c }
def MM.setD (m:MM) (ds:List Int) (A:Option Addr) (c:Nat):MM:={ m with x:={ m.x with down:=ds },DA:=A,dc:=c }
section
variable {G:List Nat} {g:Nat} {m:MM} {w w':World} {A:Option Addr} {n c:Nat}
theorem MS.setW (h:MS G g m w) {ws:List WasT} (hb:w.grownBy w' (some g)) (hB:Blk w' g 72 (m.cs.setIfInBounds 11 (.slice A ws.length c))) (hr:(⟨4,A,c,ws.length,ws.flatMap wasL⟩:RowT).In w') (ho:∀k ∈ G,(⟨4,A,c,ws.length,ws.flatMap wasL⟩:RowT).Off k) (hl:ws.length≤33554432):MS G g (m.setW ws A c) w' :=
 h.turn hb hB (MM.All.mk' (.inr h.old.map) (.inr h.old.next) (.inr h.old.cut) (.inr h.old.objs) (.inr h.old.ints) (.inr h.old.sess) (.inl ⟨hr,ho⟩) (.inr h.old.down) (fun o k => .inr (h.old.os o k)) (fun o k => .inr (h.old.is o k))) h.inn.os h.inn.is ⟨h.inn.wf.ok,h.inn.wf.ik,h.inn.wf.ol,h.inn.wf.il,h.inn.wf.sl,hl,h.inn.wf.cl,h.inn.wf.dl⟩
theorem MS.setS (h:MS G g m w) {ws:List SesT} (hb:w.grownBy w' (some g)) (hB:Blk w' g 72 (m.cs.setIfInBounds 10 (.slice A ws.length c))) (hr:(⟨5,A,c,ws.length,ws.flatMap sesL⟩:RowT).In w') (ho:∀k ∈ G,(⟨5,A,c,ws.length,ws.flatMap sesL⟩:RowT).Off k) (hl:ws.length≤16777216):MS G g (m.setS ws A c) w' :=
 h.turn hb hB (MM.All.mk' (.inr h.old.map) (.inr h.old.next) (.inr h.old.cut) (.inr h.old.objs) (.inr h.old.ints) (.inl ⟨hr,ho⟩) (.inr h.old.wass) (.inr h.old.down) (fun o k => .inr (h.old.os o k)) (fun o k => .inr (h.old.is o k))) h.inn.os h.inn.is ⟨h.inn.wf.ok,h.inn.wf.ik,h.inn.wf.ol,h.inn.wf.il,hl,h.inn.wf.wl,h.inn.wf.cl,h.inn.wf.dl⟩
theorem MS.setCut (h:MS G g m w) {ws:List Int} (hb:w.grownBy w' (some g)) (hB:Blk w' g 72 (m.cs.setIfInBounds 7 (.slice A ws.length c))) (hr:(⟨1,A,c,ws.length,ws.flatMap i1⟩:RowT).In w') (ho:∀k ∈ G,(⟨1,A,c,ws.length,ws.flatMap i1⟩:RowT).Off k) (hl:ws.length≤16777216):MS G g (m.setCut ws A c) w' :=
 h.turn hb hB (MM.All.mk' (.inr h.old.map) (.inr h.old.next) (.inl ⟨hr,ho⟩) (.inr h.old.objs) (.inr h.old.ints) (.inr h.old.sess) (.inr h.old.wass) (.inr h.old.down) (fun o k => .inr (h.old.os o k)) (fun o k => .inr (h.old.is o k))) h.inn.os h.inn.is ⟨h.inn.wf.ok,h.inn.wf.ik,h.inn.wf.ol,h.inn.wf.il,h.inn.wf.sl,h.inn.wf.wl,hl,h.inn.wf.dl⟩
theorem MS.setD (h:MS G g m w) {ws:List Int} (hb:w.grownBy w' (some g)) (hB:Blk w' g 72 (m.cs.setIfInBounds 12 (.slice A ws.length c))) (hr:(⟨1,A,c,ws.length,ws.flatMap i1⟩:RowT).In w') (ho:∀k ∈ G,(⟨1,A,c,ws.length,ws.flatMap i1⟩:RowT).Off k) (hl:ws.length≤16777216):MS G g (m.setD ws A c) w' :=
 h.turn hb hB (MM.All.mk' (.inr h.old.map) (.inr h.old.next) (.inr h.old.cut) (.inr h.old.objs) (.inr h.old.ints) (.inr h.old.sess) (.inr h.old.wass) (.inl ⟨hr,ho⟩) (fun o k => .inr (h.old.os o k)) (fun o k => .inr (h.old.is o k))) h.inn.os h.inn.is ⟨h.inn.wf.ok,h.inn.wf.ik,h.inn.wf.ol,h.inn.wf.il,h.inn.wf.sl,h.inn.wf.wl,h.inn.wf.cl,hl⟩
theorem MS.setI (h:MS G g m w) {is:List IM} (hb:w.grownBy w' (some g)) (hB:Blk w' g 72 (m.cs.setIfInBounds 9 (.slice A is.length c))) (hr:(⟨9,A,c,is.length,is.flatMap imCs⟩:RowT).In w') (ho:∀k ∈ G,(⟨9,A,c,is.length,is.flatMap imCs⟩:RowT).Off k) (hl:is.length≤16777216)
 (hi:∀i ∈ is,i ∈ m.is∨((iRow i).In w'∧(∀k ∈ G,(iRow i).Off k)∧Byt i.x.obj.key)):MS G g (m.setI is A c) w':=by
 have e:is.length=(m.setI is A c).x.ints.length:=by show _=(is.map (·.x)).length;rw [List.length_map]
 refine h.turn hb (by rw [e] at hB;exact hB) (MM.All.mk' (.inr h.old.map) (.inr h.old.next) (.inr h.old.cut) (.inr h.old.objs) (.inl (by show (⟨9,A,c,(m.setI is A c).x.ints.length,is.flatMap imCs⟩:RowT).In w'∧∀k ∈ G,(⟨9,A,c,(m.setI is A c).x.ints.length,is.flatMap imCs⟩:RowT).Off k;rw [← e];exact⟨hr,ho⟩)) (.inr h.old.sess) (.inr h.old.wass) (.inr h.old.down) (fun o k => .inr (h.old.os o k)) (fun o k=>?_)) h.inn.os rfl ⟨h.inn.wf.ok,?_,h.inn.wf.ol,by show (is.map (·.x)).length≤_;rw [List.length_map];exact hl,h.inn.wf.sl,h.inn.wf.wl,h.inn.wf.cl,h.inn.wf.dl⟩
 · rcases hi o k with k | ⟨k1,k2,_⟩
   · exact .inr (h.old.is o k)
   · exact .inl ⟨k1,k2⟩
 · intro y hy
   obtain⟨i,k,rfl⟩:=List.mem_map.1 hy
   rcases hi i k with k | ⟨_,_,k⟩
   · exact h.inn.ikeys i k
   · exact k
theorem MS.setO (h:MS G g m w) {os:List OM} (hb:w.grownBy w' (some g)) (hB:Blk w' g 72 (m.cs.setIfInBounds 8 (.slice A os.length c))) (hr:(⟨7,A,c,os.length,os.flatMap omCs⟩:RowT).In w') (ho:∀k ∈ G,(⟨7,A,c,os.length,os.flatMap omCs⟩:RowT).Off k) (hl:os.length≤16777216)
 (hi:∀i ∈ os,i ∈ m.os∨((oRow i).In w'∧(∀k ∈ G,(oRow i).Off k)∧Byt i.x.key)):MS G g (m.setO os A c) w':=by
 have e:os.length=(m.setO os A c).x.objs.length:=by show _=(os.map (·.x)).length;rw [List.length_map]
 refine h.turn hb (by rw [e] at hB;exact hB) (MM.All.mk' (.inr h.old.map) (.inr h.old.next) (.inr h.old.cut) (.inl (by show (⟨7,A,c,(m.setO os A c).x.objs.length,os.flatMap omCs⟩:RowT).In w'∧∀k ∈ G,(⟨7,A,c,(m.setO os A c).x.objs.length,os.flatMap omCs⟩:RowT).Off k;rw [← e];exact⟨hr,ho⟩)) (.inr h.old.ints) (.inr h.old.sess) (.inr h.old.wass) (.inr h.old.down) (fun o k=>?_) (fun o k => .inr (h.old.is o k))) rfl h.inn.is ⟨?_,h.inn.wf.ik,by show (os.map (·.x)).length≤_;rw [List.length_map];exact hl,h.inn.wf.il,h.inn.wf.sl,h.inn.wf.wl,h.inn.wf.cl,h.inn.wf.dl⟩
 · rcases hi o k with k | ⟨k1,k2,_⟩
   · exact .inr (h.old.os o k)
   · exact .inl ⟨k1,k2⟩
 · intro y hy
   obtain⟨i,k,rfl⟩:=List.mem_map.1 hy
   rcases hi i k with k | ⟨_,_,k⟩
   · exact h.inn.okeys i k
   · exact k
end
end
section
open Go.RowKit OctMath
theorem Tryz.zCk:(Tryz.prog.info? 46).map (fun i=>(i.zero,i.size,i.bytes))=some (some (.agg #[.int .u64 0,.int .i64 0,.int .u64 0]),3,24):=by kernel_rfl
theorem Tryz.szCk:(Tryz.prog.info? 46).map (·.size)=some 3:=by kernel_rfl
def ck1 (v e i:Nat):List Value:=[.int .u64 (v:Int),.int .i64 (i:Int),.int .u64 (e:Int)]
def ckC (v e n:Nat):List Value:=(List.range n).flatMap (ck1 v e)
theorem ckC_succ (v e n:Nat):ckC v e (n+1)=ckC v e n ++ ck1 v e n:=by unfold ckC;rw [List.range_succ,List.flatMap_append];simp
theorem chunks_any (o:OM) (w:World) (hr:Hid ((oRow o).In w)) (hn:o.x.nodes.length≤16777216) :
 Calls Tryz.prog 29 #[.agg (oA o)] w (RetRow 46 3 o.x.nodes.length (ckC o.x.version o.x.epoch o.x.nodes.length) w):=by
 obtain⟨x,A,c⟩:=o
 obtain⟨key,ver,size,sum,grp,ep,nodes⟩:=x
 simp only at hr hn ⊢
 obtain⟨n,en⟩:∃n,nodes.length=n:=⟨_,rfl⟩
 have HB:=Lh (Blk.new w 58 (oA ⟨⟨key,ver,size,sum,grp,ep,nodes⟩,A,c⟩))
 have hb0:Below w.heap.size w (w.alloc (.cells (oA ⟨⟨key,ver,size,sum,grp,ep,nodes⟩,A,c⟩) 58)):=(Below.refl _ _).alloc (Nat.le_refl _) _
 have hs0:(w.alloc (.cells (oA ⟨⟨key,ver,size,sum,grp,ep,nodes⟩,A,c⟩) 58)).heap.size=w.heap.size+1:=by simp
 unfold oA at HB hb0 hs0 ⊢
 simp only at HB hb0 hs0 ⊢
 rw [en] at hn HB hb0 hs0 ⊢
 clear hr en
 go_enter Tryz.func29,Tryz.ntmps29
 go_wp2
 obtain⟨w1,ew1⟩:∃w1,w.alloc (.cells #[.string (strOf key),.int .u64 (ver:Int),.int .i64 size,.int .u32 (sum:Int),.int .i64 grp,.int .u64 (ep:Int),.slice A n c] 58)=w1:=⟨_,rfl⟩
 rw [ew1] at HB hb0 hs0 ⊢
 have HB0:=Lh hb0
 have HS0:=Lh hs0
 clear ew1 hb0 hs0
 go_loopw [3,8] (fun v vi wr=>∃k:Nat,k≤n∧vi = .int .i64 k∧Hid (wr.ownsRow w1.heap.size 46 3 v k (ckC ver ep k))∧Hid (Below w1.heap.size w1 wr)) (fun _ vi _=>n - (intOf vi).toNat)
 case atStart=>exact⟨0,Nat.zero_le _,rfl,Lh ⟨rfl,.inl ⟨rfl,rfl⟩⟩,Lh (Below.refl _ _)⟩
 case round =>
  obtain⟨k,hk,rfl,HO,HBW⟩:=hrel
  by_cases hlt:k<n
  · have HBX:=HB.out.below HBW.out HB.out.lt
    have c1:wr.cell? ⟨w.heap.size,1,none⟩=some (.int .u64 (ver:Int)):=HBX.cell 1
    have c5:wr.cell? ⟨w.heap.size,5,none⟩=some (.int .u64 (ep:Int)):=HBX.cell 5
    clear HBX
    go_wp2_with (at_builtin
                 refine wpl_append rfl (.tmp 11) (.tmp 18) _ rfl w1 w1.heap.size 46 _ 3 24 Tryz.underlying75 Tryz.zCk rfl (by decide) _ k (ckC ver ep k) rfl (HO.out.alloc _) (wr.heap.size+1) (some ⟨wr.heap.size,0,none⟩) 1 1 (ck1 ver ep k) rfl (Reads.lit wr _ (ck1 ver ep k) 3 1 rfl) ?one (by omega) (by decide) (HBW.out.alloc HBW.out.size _) (by have:=HBW.out.size;simp;omega) ?_
                 case one=>(intro u hu;simp only [ck1,List.mem_cons,List.not_mem_nil,or_false] at hu;rcases hu with rfl | rfl | rfl <;> rfl)
                 intro v1 w2 hh)
    exact⟨⟨k+1,by omega,by go_num,Lh (by rw [ckC_succ];exact hh.out.1),Lh hh.out.2.1⟩,by simp [intOf];omega⟩
  · obtain rfl:n=k:=by omega
    go_wp2
    go_ret
    exact⟨_,rfl,ownBas HO.out (by have:=HS0.out;omega),HB0.out.trans (HBW.out.mono HB0.out.size)⟩
end
section
open Go
section
variable {P:Program} {l:List Oper} {md:Region.Mode} {Q:Exit→Act→World→Prop} {S0 S:World→Prop} {s:Nat}
def wpAnyT (P:Program) (md:Region.Mode) (l:List Oper) (Q:Exit→Act→World→Prop) (S0 S:World→Prop) (s:Nat):Nat→Array Bool→Act→World→Prop
 | 0,listed,a,w=>Region.ready md l.toArray listed=[]∧Q .normal a w
 | fuel+1,listed,a,w =>
   (Region.ready md l.toArray listed=[]→Q .normal a w) ∧
   ∀i ∈ Region.ready md l.toArray listed,wpOp P l.toArray Q i (fun a' w'=>(S0 w'∧((listed.setIfInBounds i true).getD s false=false→S w'))∧wpAnyT P md l Q S0 S s fuel (listed.setIfInBounds i true) a' w') a w
theorem wpAny_of_late:∀ (fuel:Nat) (listed:Array Bool) (a:Act) (w:World),wpAnyT P md l Q S0 S s fuel listed a w→wpAny P md l.toArray Q fuel listed a w
 | 0,_,_,_,h=>h
 | fuel+1,_,_,_,h=>⟨h.1,fun i hi=>wpOp_mono (fun a' w' h'=>wpAny_of_late fuel _ a' w' h'.2) (h.2 i hi)⟩
def upB (md:Region.Mode) (l:List Oper) (i:Nat):Nat→List Bool
 | 0=>[]
 | k+1=>upB md l i k ++ [k == i || (match l.toArray[k]? with | some o=>o.after.any fun e=>Region.binds md e && (upB md l i k).getD e.on false | none=>false)]
theorem upB_len (i k:Nat):(upB md l i k).length=k:=by
 induction k with
 | zero=>rfl
 | succ k ih=>simp [upB,ih]
def Closed (md:Region.Mode) (l:List Oper) (listed:Array Bool):Prop :=
 ∀ (j:Nat) oj,l.toArray[j]?=some oj→listed.getD j false=true→∀e ∈ oj.after,Region.binds md e=true→listed.getD e.on false=true
def closedB (md:Region.Mode) (l:List Oper) (listed:Array Bool):Bool :=
 (List.range l.length).all fun j=>match l.toArray[j]? with | some o => !listed.getD j false || o.after.all fun e => !Region.binds md e || listed.getD e.on false | none=>true
theorem closedB_spec {listed:Array Bool} (h:closedB md l listed=true):Closed md l listed:=by
 intro j o ho hj e he hb
 have hlt:j<l.length:=by simpa using (Array.getElem?_eq_some_iff.1 ho).1
 have h1:=List.all_eq_true.1 h j (List.mem_range.2 hlt)
 simp only [ho,hj,Bool.not_true,Bool.false_or] at h1
 have h2:=Array.all_eq_true_iff_forall_mem.1 h1 e he
 simpa [hb] using h2
theorem Closed.set {listed:Array Bool} (h:Closed md l listed) {i:Nat} (hi:i ∈ Region.ready md l.toArray listed):Closed md l (listed.setIfInBounds i true):=by
 obtain⟨_,oi,hoi,hall⟩:=mem_ready.1 hi
 intro j oj hj hl e he hb
 by_cases hij:i=j
 · subst hij
   have:oj=oi:=Option.some.inj (hj.symm.trans hoi)
   subst this
   exact getD_set_true (hall e he hb)
 · rw [getD_set_ne false hij] at hl
   exact getD_set_true (h j oj hj hl e he hb)
theorem upB_spec {listed:Array Bool} (hc:Closed md l listed) {i:Nat} (hi:listed.getD i false=false):∀k j,(upB md l i k).getD j false=true→listed.getD j false=false:=by
 intro k
 induction k with
 | zero=>intro j h;simp [upB] at h
 | succ k ih =>
   intro j h
   rw [upB,List.getD_eq_getElem?_getD] at h
   rcases Nat.lt_or_ge j k with hj | hj
   · rw [List.getElem?_append_left (by rw [upB_len];exact hj),← List.getD_eq_getElem?_getD] at h
     exact ih j h
   · rw [List.getElem?_append_right (by rw [upB_len];exact hj),upB_len] at h
     by_cases e:j=k
     · subst e
       simp only [Nat.sub_self,List.getElem?_cons_zero,Option.getD_some,Bool.or_eq_true,beq_iff_eq] at h
       rcases h with h | h
       · rw [h];exact hi
       · cases ho:l.toArray[j]? with
         | none=>rw [ho] at h;cases h
         | some o =>
           rw [ho] at h
           obtain⟨ed,he,h2⟩:=Array.any_eq_true'.1 h
           simp only [Bool.and_eq_true] at h2
           have h3:=ih ed.on h2.2
           cases hv:listed.getD j false with
           | false=>rfl
           | true=>rw [hc j o ho hv ed he h2.1] at h3;cases h3
     · rw [List.getElem?_eq_none (by simp;omega)] at h
       cases h
theorem wpAnyT_first {i:Nat} {oi:Oper} {v:Value} (his:i≠s) (hi:l.toArray[i]?=some oi) (hsel:∀ (j:Nat) (o:Oper) cs b,l.toArray[j]?=some o→o.op ≠ .select cs b)
 (hQ:∀c a w,Q (.panic c) (a.put oi.dst v) w→Q (.panic c) a w) (S1:World→Prop) (hS1:∀listed w,Closed md l listed→listed.getD i false=false→S0 w→(listed.getD s false=false→S w)→S1 w) :
 ∀ (fuel:Nat) (listed:Array Bool) (a:Act) (w:World),Closed md l listed →
   (∀j oj,l.toArray[j]?=some oj→j≠i→listed.getD j true=false→(∀e ∈ oj.after,Region.binds md e=true→e.on≠i)→oi.apart l.toArray oj=true) →
   i ∈ Region.ready md l.toArray listed→YieldsIf P l.toArray S1 oi v a→S0 w→(listed.getD s false=false→S w) →
   wpAnyT P md l Q S0 S s fuel (listed.setIfInBounds i true) (a.put oi.dst v) w→wpAnyT P md l Q S0 S s (fuel+1) listed a w:=by
 have un:∀ {listed:Array Bool},listed.getD i true=false→listed.getD i false=false:=fun {listed} h=>by
  rcases Nat.lt_or_ge i listed.size with h' | h'
  · simp [h'] at h ⊢;exact h
  · simp [Array.getElem?_eq_none h'] at h
 intro fuel
 induction fuel with
 | zero =>
   intro listed a w hc _ hr hy hS0 hS H
   refine⟨fun h=>(by rw [h] at hr;cases hr),fun j hj=>?_⟩
   by_cases hji:j=i
   · subst hji
     exact hy.wpOp hi (hS1 listed w hc (un (mem_ready.1 hr).1) hS0 hS) ⟨⟨hS0,fun h=>hS (by rwa [getD_set_ne false his] at h)⟩,H⟩
   · have:=ready_mono hj hji
     rw [H.1] at this
     cases this
 | succ fuel ih =>
   intro listed a w hc hfree hr hy hS0 hS H
   refine⟨fun h=>(by rw [h] at hr;cases hr),fun j hj=>?_⟩
   by_cases hji:j=i
   · subst hji;exact hy.wpOp hi (hS1 listed w hc (un (mem_ready.1 hr).1) hS0 hS) ⟨⟨hS0,fun h=>hS (by rwa [getD_set_ne false his] at h)⟩,H⟩
   · have h1:=H.2 j (ready_mono hj hji)
     obtain⟨hjun,oj,hoj,hall⟩:=mem_ready.1 hj
     have hnot:∀e ∈ oj.after,Region.binds md e=true→e.on≠i:=fun e he hb heq=>by
      have h1:=hall e he hb
      rw [heq,un (mem_ready.1 hr).1] at h1
      cases h1
     have h2:=wpOp_putIf hoj (hfree j oj hoj hji hjun hnot) (fun cs b=>hsel i oi cs b hi) (fun cs b=>hsel j oj cs b hoj) hQ hy h1
     have hfree':∀k ok,l.toArray[k]?=some ok→k≠i→(listed.setIfInBounds j true).getD k true=false →
      (∀e ∈ ok.after,Region.binds md e=true→e.on≠i)→oi.apart l.toArray ok=true:=fun k ok hk hki hun hno=>by
      refine hfree k ok hk hki ?_ hno
      by_cases hjk:j=k
      · subst hjk;exact hjun
      · rw [getD_set_ne true hjk] at hun;exact hun
     have comm:(listed.setIfInBounds i true).setIfInBounds j true=(listed.setIfInBounds j true).setIfInBounds i true:=Array.setIfInBounds_comm _ _ (Ne.symm hji)
     refine wpOp_mono (fun a' w' h3=>?_) h2
     obtain⟨g1,⟨g0,g2⟩,g3⟩:=h3
     rw [comm] at g2 g3
     have hlive:(listed.setIfInBounds j true).getD s false=false→S w':=fun h0=>g2 (by rw [getD_set_ne false his];exact h0)
     exact⟨⟨g0,hlive⟩,ih (listed.setIfInBounds j true) a' w' (hc.set hj) hfree' (ready_mono hr (Ne.symm hji)) g1 g0 hlive g3⟩
theorem drop_get {i:Nat} {oi:Oper} {rest:List Oper} (h:l.drop i=oi :: rest):l.toArray[i]?=some oi:=by
 have:=congrArg (·[0]?) h
 simpa using this
theorem wpAnyT_take (i:Nat) {oi:Oper} {rest:List Oper} {v:Value} {fuel:Nat} {listed:Array Bool} {a:Act} {w:World} (hd:l.drop i=oi :: rest)
 (hs:(Region.noSelect l.toArray && Region.free md l.toArray listed i && (Region.ready md l.toArray listed).contains i && closedB md l listed && (upB md l i l.length).getD s false && i != s && !listed.getD s false)=true)
 (hQ:∀c a w,Q (.panic c) (a.put oi.dst v) w→Q (.panic c) a w) (hy:YieldsIf P l.toArray S oi v a) (hS:S0 w∧S w)
 (h:wpAnyT P md l Q S0 S s fuel (listed.setIfInBounds i true) (a.put oi.dst v) w):wpAnyT P md l Q S0 S s (fuel+1) listed a w:=by
 simp only [Bool.and_eq_true,bne_iff_ne,ne_eq,Bool.not_eq_true'] at hs
 obtain⟨⟨⟨⟨⟨⟨h1,h2⟩,h3⟩,h4⟩,h5⟩,h6⟩,h7⟩:=hs
 exact wpAnyT_first h6 (drop_get hd) (Region.noSelect_spec h1) hQ S (fun listed' w' hc hu _ hl=>hl (upB_spec hc hu _ _ h5)) fuel listed a w (closedB_spec h4) (Region.free_spec (drop_get hd) h2) (by simpa using h3) hy hS.1 (fun _=>hS.2) h
theorem wpAnyT_stay (i:Nat) {oi:Oper} {rest:List Oper} {v:Value} {fuel:Nat} {listed:Array Bool} {a:Act} {w:World} (hd:l.drop i=oi :: rest)
 (hs:(Region.noSelect l.toArray && Region.free md l.toArray listed i && (Region.ready md l.toArray listed).contains i && closedB md l listed && i != s)=true)
 (hQ:∀c a w,Q (.panic c) (a.put oi.dst v) w→Q (.panic c) a w) (hy:YieldsIf P l.toArray S0 oi v a) (hS:S0 w∧(listed.getD s false=false→S w))
 (h:wpAnyT P md l Q S0 S s fuel (listed.setIfInBounds i true) (a.put oi.dst v) w):wpAnyT P md l Q S0 S s (fuel+1) listed a w:=by
 simp only [Bool.and_eq_true,bne_iff_ne,ne_eq] at hs
 obtain⟨⟨⟨⟨h1,h2⟩,h3⟩,h4⟩,h6⟩:=hs
 exact wpAnyT_first h6 (drop_get hd) (Region.noSelect_spec h1) hQ _ (fun _ _ _ _ h0 _=>h0) fuel listed a w (closedB_spec h4) (Region.free_spec (drop_get hd) h2) (by simpa using h3) hy hS.1 hS.2 h
theorem tT (i:Nat) {oi:Oper} {rest:List Oper} {fuel:Nat} {listed:Array Bool} {a:Act} {w:World} (hd:l.drop i=oi :: rest) (v:Value) (hS:S0 w∧(listed.getD s false=false→S w)) (hv:∀w,S0 w→(execOp a.eval oi).run P w = .ok (.value v) w)
 (h:wpAnyT P md l Q S0 S s fuel (listed.setIfInBounds i true) (a.put oi.dst v) w) (hg:Region.wanted oi (yielded l.toArray a.tmps)=true:=by rfl)
 (hs:(Region.noSelect l.toArray && Region.free md l.toArray listed i && (Region.ready md l.toArray listed).contains i && closedB md l listed && i != s)=true:=by kernel_rfl)
 (hQ:∀c a w,Q (.panic c) (a.put oi.dst v) w→Q (.panic c) a w:=by intro _ _ _ h;exact h):wpAnyT P md l Q S0 S s (fuel+1) listed a w :=
 wpAnyT_stay i hd hs hQ (Or.inl ⟨hg,hv⟩) hS h
theorem tS (i:Nat) {oi:Oper} {rest:List Oper} {fuel:Nat} {listed:Array Bool} {a:Act} {w:World} (hd:l.drop i=oi :: rest) (v:Value) (hS:S0 w∧S w) (hv:∀w,S0 w→(execOp a.eval oi).run P w = .ok (.value v) w)
 (h:wpAnyT P md l Q S0 S s fuel (listed.setIfInBounds i true) (a.put oi.dst v) w) (hg:Region.wanted oi (yielded l.toArray a.tmps)=true:=by rfl)
 (hs:(Region.noSelect l.toArray && Region.free md l.toArray listed i && (Region.ready md l.toArray listed).contains i && closedB md l listed && i != s)=true:=by kernel_rfl)
 (hQ:∀c a w,Q (.panic c) (a.put oi.dst v) w→Q (.panic c) a w:=by intro _ _ _ h;exact h):wpAnyT P md l Q S0 S s (fuel+1) listed a w :=
 wpAnyT_stay i hd hs hQ (Or.inl ⟨hg,hv⟩) ⟨hS.1,fun _=>hS.2⟩ h
theorem wpAnyT_one (i:Nat) {oi:Oper} {rest:List Oper} {fuel:Nat} {listed:Array Bool} {a:Act} {w:World} (hd:l.drop i=oi :: rest) (hr:Region.ready md l.toArray listed=[i])
 (h:∀K:Act→World→Prop,Shut (∀a w,S0 w∧S w→(S0 w∧S w→wpAnyT P md l Q S0 S s fuel (listed.setIfInBounds i true) a w)→K a w)→if Region.wanted oi (yielded l.toArray a.tmps)=true then Oper.wp P oi a w K Q else K (a.put oi.dst undef) w) :
 wpAnyT P md l Q S0 S s (fuel+1) listed a w:=by
 refine⟨fun h0=>(by rw [hr] at h0;cases h0),fun j hj=>?_⟩
 rw [hr] at hj
 obtain rfl:j=i:=by simpa using hj
 exact wpOp_step (drop_get hd) (fun K hK=>h K (fun a w hS hW=>hK a w ⟨⟨hS.1,fun _=>hS.2⟩,hW hS⟩))
theorem wpAnyT_two (i j:Nat) {oi oj:Oper} {rest rest':List Oper} {fuel:Nat} {listed:Array Bool} {a:Act} {w:World} (hd:l.drop i=oi :: rest) (hd':l.drop j=oj :: rest') (hr:Region.ready md l.toArray listed=[i,j])
 (h:∀K:Act→World→Prop,Shut (∀a w,S0 w∧S w→(S0 w∧S w→wpAnyT P md l Q S0 S s fuel (listed.setIfInBounds i true) a w)→K a w)→if Region.wanted oi (yielded l.toArray a.tmps)=true then Oper.wp P oi a w K Q else K (a.put oi.dst undef) w)
 (h':∀K:Act→World→Prop,Shut (∀a w,S0 w∧S w→(S0 w∧S w→wpAnyT P md l Q S0 S s fuel (listed.setIfInBounds j true) a w)→K a w)→if Region.wanted oj (yielded l.toArray a.tmps)=true then Oper.wp P oj a w K Q else K (a.put oj.dst undef) w) :
 wpAnyT P md l Q S0 S s (fuel+1) listed a w:=by
 refine⟨fun h0=>(by rw [hr] at h0;cases h0),fun q hq=>?_⟩
 rw [hr] at hq
 rcases List.mem_cons.1 hq with rfl | hq
 · exact wpOp_step (drop_get hd) (fun K hK=>h K (fun a w hS hW=>hK a w ⟨⟨hS.1,fun _=>hS.2⟩,hW hS⟩))
 · obtain rfl:q=j:=by simpa using hq
   exact wpOp_step (drop_get hd') (fun K hK=>h' K (fun a w hS hW=>hK a w ⟨⟨hS.1,fun _=>hS.2⟩,hW hS⟩))
theorem wpAnyT_last (i:Nat) {oi:Oper} {rest:List Oper} {fuel:Nat} {listed:Array Bool} {a:Act} {w:World} (hd:l.drop i=oi :: rest) (hr:Region.ready md l.toArray listed=[i]) (hs:(listed.setIfInBounds i true).getD s false=true)
 (h:∀K:Act→World→Prop,Shut (∀a w,S0 w→(S0 w→wpAnyT P md l Q S0 S s fuel (listed.setIfInBounds i true) a w)→K a w)→if Region.wanted oi (yielded l.toArray a.tmps)=true then Oper.wp P oi a w K Q else K (a.put oi.dst undef) w) :
 wpAnyT P md l Q S0 S s (fuel+1) listed a w:=by
 refine⟨fun h0=>(by rw [hr] at h0;cases h0),fun j hj=>?_⟩
 rw [hr] at hj
 obtain rfl:j=i:=by simpa using hj
 exact wpOp_step (drop_get hd) (fun K hK=>h K (fun a w hS hW=>hK a w ⟨⟨hS,fun h0=>absurd (h0.symm.trans hs) (by decide)⟩,hW hS⟩))
theorem wpAnyT_done {listed:Array Bool} {a:Act} {w:World} (hr:Region.ready md l.toArray listed=[]) (h:Q .normal a w):∀fuel,wpAnyT P md l Q S0 S s fuel listed a w
 | 0=>⟨hr,h⟩
 | _+1=>⟨fun _=>h,by rw [hr];simp⟩
theorem wp_region_late {id:Nat} {a:Act} {w:World} (S0 S:World→Prop) (s n:Nat) (hm:P.follows .mixedOrders=true) (hn:l.length=n) (hS:S0 w.drew∧S w.drew)
 (h:∀wd,wd=w.drew→S0 wd∧S wd→wpAnyT P .any l Q S0 S s n (Array.replicate n false) a wd):(Code.region id l.toArray true).wp P Q a w :=
 wp_region_any hm (by subst hn;simpa using wpAny_of_late _ _ _ _ (h _ rfl hS))
end
end
end Go.Proofs.YtdoneomahlfkbaaGreat
