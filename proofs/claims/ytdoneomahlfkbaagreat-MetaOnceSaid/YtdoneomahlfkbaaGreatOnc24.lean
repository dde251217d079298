/- A DRAWN REGION AT WHOSE HEAD THREE OPERATIONS MAY COME UP; THE LAWS' FIRST STATES; what a loop that applies commands keeps. (printed by gen_mel3.py); -/
import Derived.Deep.CutRange
import Derived.Test.YtdoneomahlfkbaaGreatOnc03
import Derived.Test.YtdoneomahlfkbaaGreatOnc23
set_option linter.unusedVariables false
set_option linter.unusedSimpArgs false
set_option maxRecDepth 100000
namespace Go.Proofs.YtdoneomahlfkbaaGreat
section
open Go
section
variable {P:Program} {l:List Oper} {md:Region.Mode} {Q:Exit→Act→World→Prop} {S0 S:World→Prop} {s:Nat}
theorem wpAnyT_three (i j k:Nat) {oi oj ok:Oper} {rest rest' rest'':List Oper} {fuel:Nat} {listed:Array Bool} {a:Act} {w:World} (hd:l.drop i=oi :: rest) (hd':l.drop j=oj :: rest') (hd'':l.drop k=ok :: rest'') (hr:Region.ready md l.toArray listed=[i,j,k])
 (h:∀K:Act→World→Prop,Shut (∀a w,S0 w∧S w→(S0 w∧S w→wpAnyT P md l Q S0 S s fuel (listed.setIfInBounds i true) a w)→K a w)→if Region.wanted oi (yielded l.toArray a.tmps)=true then Oper.wp P oi a w K Q else K (a.put oi.dst undef) w)
 (h':∀K:Act→World→Prop,Shut (∀a w,S0 w∧S w→(S0 w∧S w→wpAnyT P md l Q S0 S s fuel (listed.setIfInBounds j true) a w)→K a w)→if Region.wanted oj (yielded l.toArray a.tmps)=true then Oper.wp P oj a w K Q else K (a.put oj.dst undef) w)
 (h'':∀K:Act→World→Prop,Shut (∀a w,S0 w∧S w→(S0 w∧S w→wpAnyT P md l Q S0 S s fuel (listed.setIfInBounds k true) a w)→K a w)→if Region.wanted ok (yielded l.toArray a.tmps)=true then Oper.wp P ok a w K Q else K (a.put ok.dst undef) w) :
 wpAnyT P md l Q S0 S s (fuel+1) listed a w:=by
 refine⟨fun h0=>(by rw [hr] at h0;cases h0),fun q hq=>?_⟩
 rw [hr] at hq
 rcases List.mem_cons.1 hq with rfl | hq
 · exact wpOp_step (drop_get hd) (fun K hK=>h K (fun a w hS hW=>hK a w ⟨⟨hS.1,fun _=>hS.2⟩,hW hS⟩))
 · rcases List.mem_cons.1 hq with rfl | hq
   · exact wpOp_step (drop_get hd') (fun K hK=>h' K (fun a w hS hW=>hK a w ⟨⟨hS.1,fun _=>hS.2⟩,hW hS⟩))
   · obtain rfl:q=k:=by simpa using hq
     exact wpOp_step (drop_get hd'') (fun K hK=>h'' K (fun a w hS hW=>hK a w ⟨⟨hS.1,fun _=>hS.2⟩,hW hS⟩))
end
end
section
open Go.RowKit OctMath StrMath PlMath
theorem reads_blk {w:World} {b:Nat} {t:TypeId} {cs:Array Value} {K n:Nat} (h:Blk w b t cs) (hs:cs.size=n*K):Reads w w.heap.size K (some ⟨b,0,none⟩) n cs.toList :=
 ⟨by rw [Array.length_toList];exact hs,fun _=>⟨_,rfl,h.lt,fun j u hu=>by rw [addr0,h.cell,← Array.getElem?_toList];exact hu⟩⟩
theorem two_any (w:World):Calls Tryz.prog 14 #[] w fun e w'=>∃A c,e = .returned (.agg #[.int .u64 1,.slice A 2 c])∧(⟨2,A,c,2,mcells [(1,1),(2,1)]⟩:RowT).In w'∧Below w.heap.size w w':=by
 go_enter Tryz.func14,Tryz.ntmps14
 go_wp2
 have h1:=(Blk.new w 27 #[.int .u64 1,.slice (some ⟨w.heap.size+1,0,none⟩) 2 2]).alloc (.cells #[.int .i64 1,.int .i64 1,.int .i64 2,.int .i64 1] 67)
 have h2:=Blk.new (w.alloc (.cells #[.int .u64 1,.slice (some ⟨w.heap.size+1,0,none⟩) 2 2] 27)) 67 #[.int .i64 1,.int .i64 1,.int .i64 2,.int .i64 1]
 rw [show (w.alloc (.cells #[.int .u64 1,.slice (some ⟨w.heap.size+1,0,none⟩) 2 2] 27)).heap.size=w.heap.size+1 from by simp] at h2
 refine bodyPost_ret (res_c Tryz.results14 rfl (load_blk h1 Tryz.underlying27 rfl Tryz.szMp)) rfl ⟨_,_,rfl,⟨reads_blk h2 rfl,Nat.le_refl _,by show 2≤maxLen;unfold maxLen;omega⟩,?_⟩
 exact ((Below.refl _ _).alloc (Nat.le_refl _) _).alloc (by simp) _
structure ApI (wr:World) (G:List Nat) (m:MM) (x:World):Prop where
 bel:Below wr.heap.size wr x
 inn:MIn m x
 off:∀q ∈ G,m.All (·.Off q)
theorem ApI.alloc {wr x x':World} {G:List Nat} {m:MM} {b:Nat} (h:ApI wr G m x) (hb:Below x.heap.size x x') (hl:x.heap.size≤b):ApI wr (b :: G) m x' :=
 ⟨h.bel.trans (hb.mono h.bel.size),h.inn.later hb,fun q hq=>by
  rcases List.mem_cons.1 hq with rfl | hq
  · exact h.inn.rows.imp fun r hr=>hr.off hl
  · exact h.off q hq⟩
theorem ApI.store {wr x x':World} {G:List Nat} {m:MM} {b:Nat} (h:ApI wr G m x) (ho:Only b x x') (hm:b ∈ G) (hl:wr.heap.size≤b):ApI wr G m x' :=
 ⟨h.bel.trans (ho.below hl),⟨⟨fun r k=>(h.inn.rows.top r k).grown ((h.off b hm).top r k) ho.grown,fun r k=>(h.inn.rows.os r k).grown ((h.off b hm).os r k) ho.grown,fun r k=>(h.inn.rows.is r k).grown ((h.off b hm).is r k) ho.grown⟩,h.inn.os,h.inn.is,h.inn.wf⟩,h.off⟩
theorem min_store {x x':World} {m:MM} {b:Nat} (h:MIn m x) (ho:Only b x x') (hf:m.All (·.Off b)):MIn m x' :=
 ⟨⟨fun r k=>(h.rows.top r k).grown (hf.top r k) ho.grown,fun r k=>(h.rows.os r k).grown (hf.os r k) ho.grown,fun r k=>(h.rows.is r k).grown (hf.is r k) ho.grown⟩,h.os,h.is,h.wf⟩
structure ApS (wr:World) (G:List Nat) (p:MetT×ResT) (m:MM) (b7 b8:Nat) (rr:Array Value) (x:World):Prop where
 res:∃A c,rr=rcs p.2 A c
 eq:m.x=p.1
 in_ : ApI wr (b7 :: b8 :: G) m x
 t7:Blk x b7 34 m.cs
 t8:Blk x b8 39 rr
 g7:wr.heap.size≤b7
 g8:wr.heap.size≤b8
theorem ApS.mk' {wr x:World} {G G':List Nat} {p:MetT×ResT} {m:MM} {b7 b8:Nat} {rr:Array Value} (h:ApI wr G' m x) (hG:∀q ∈ G,q ∈ G') (h7:b7 ∈ G') (h8:b8 ∈ G') (e:∃A c,rr=rcs p.2 A c) (ex:m.x=p.1) (t7:Blk x b7 34 m.cs) (t8:Blk x b8 39 rr) (g7:wr.heap.size≤b7) (g8:wr.heap.size≤b8):ApS wr G p m b7 b8 rr x :=
 ⟨e,ex,⟨h.bel,h.inn,fun q hq=>by
  rcases List.mem_cons.1 hq with rfl | hq
  · exact h.off _ h7
  · rcases List.mem_cons.1 hq with rfl | hq
    · exact h.off _ h8
    · exact h.off q (hG q hq)⟩,t7,t8,g7,g8⟩
theorem ap_calls {w wr:World} {m:MM} {k:Nat} {G:List Nat} (hI:MIn m wr) (hR:RunS m.x k) (hk:k≤50000) (hoff:∀q ∈ G,m.All (·.Off q)) (hG:∀q ∈ G,w.heap.size≤q∧q<wr.heap.size) (hw:Below w.heap.size w wr) (c:CM) (hc:CmW w c) :
 ∀W,Below wr.heap.size wr W→∀G1:List Nat,(∀q ∈ G1,wr.heap.size≤q∧q<W.heap.size)→Calls Tryz.prog 9 #[.agg m.cs,.int .u64 ((k+1:Nat):Int),.agg (cmdCs c.x c.A c.c)] W (RetApp (applyM plF m.x (k+1) c.x) (G1 ++ G) W):=fun W hW G1 h1 =>
 apply_any m (k+1) c.x c.A c.c W (Lh (hI.later hW)) (Lh (mst_of hR.may)) (Lh (hR.siz (by omega))) (by have:=hR.last;omega) (by omega) (Lh ((hc.row.later hw).later hW)) hc.ok.m64 hc.ok.key hc.ok.keyL (G1 ++ G) (Lh fun q hq=>by
  rcases List.mem_append.1 hq with hq | hq
  · exact⟨(h1 q hq).2,hI.rows.imp fun r hr=>hr.off (h1 q hq).1,(hc.row.later hw).off (h1 q hq).1⟩
  · exact⟨Nat.lt_of_lt_of_le (hG q hq).2 hW.size,hoff q hq,hc.row.off (hG q hq).1⟩)
theorem ApS.later {wr x x':World} {G:List Nat} {p:MetT×ResT} {m:MM} {b7 b8:Nat} {rr:Array Value} (h:ApS wr G p m b7 b8 rr x) (hb:Below x.heap.size x x'):ApS wr G p m b7 b8 rr x' :=
 ⟨h.res,h.eq,⟨h.in_.bel.trans (hb.mono h.in_.bel.size),h.in_.inn.later hb,h.in_.off⟩,h.t7.below hb h.t7.lt,h.t8.below hb h.t8.lt,h.g7,h.g8⟩
structure RunW (w:World) (G:List Nat) (b:Nat) (m:MM) (k:Nat) (wr:World):Prop where
 bel:Below w.heap.size w wr
 blk:Blk wr b 34 m.cs
 inn:MIn m wr
 off:∀q ∈ G,m.All (·.Off q)
 lt:∀q ∈ G,w.heap.size≤q∧q<wr.heap.size
 mem:b ∈ G
 run:RunS m.x k
theorem RunW.later {w wr w':World} {G:List Nat} {b k:Nat} {m:MM} (h:RunW w G b m k wr) (hb:Below wr.heap.size wr w'):RunW w G b m k w' :=
 ⟨h.bel.trans (hb.mono h.bel.size),h.blk.below hb h.blk.lt,h.inn.later hb,h.off,fun q hq=>⟨(h.lt q hq).1,Nat.lt_of_lt_of_le (h.lt q hq).2 hb.size⟩,h.mem,h.run⟩
theorem RunW.next {w wr x x':World} {G:List Nat} {b k b7 b8:Nat} {m m':MM} {c:CmdT} {rr:Array Value} (h:RunW w G b m k wr) (hk:k≤50000) (a:ApS wr G (applyM plF m.x (k+1) c) m' b7 b8 rr x) (hB:Blk x' b 34 m'.cs) (ho:Only b x x'):RunW w G b m' (k+1) x' :=
 have hlt:b<x.heap.size:=Nat.lt_of_lt_of_le (h.lt b h.mem).2 a.in_.bel.size
 ⟨(h.bel.trans (a.in_.bel.mono h.bel.size)).trans (ho.below (h.lt b h.mem).1),hB,⟨⟨fun r q=>(a.in_.inn.rows.top r q).grown ((a.in_.off b (by simp [h.mem])).top r q) ho.grown,fun r q=>(a.in_.inn.rows.os r q).grown ((a.in_.off b (by simp [h.mem])).os r q) ho.grown,fun r q=>(a.in_.inn.rows.is r q).grown ((a.in_.off b (by simp [h.mem])).is r q) ho.grown⟩,a.in_.inn.os,a.in_.inn.is,a.in_.inn.wf⟩,
   fun q hq=>a.in_.off q (by simp [hq]),fun q hq=>⟨(h.lt q hq).1,by rw [ho.size];exact Nat.lt_of_lt_of_le (h.lt q hq).2 a.in_.bel.size⟩,h.mem,by rw [a.eq];exact h.run.apply (by omega) c⟩
end
section
open Go.RowKit OctMath StrMath PlMath
def ms4:List (Int×Int):=[(1,1),(2,2),(3,1),(4,1)]
theorem run_new:RunS (newM 2 3 4 ms4) 0:=new_run (by decide) (by decide) (by decide) (by decide)
end
section
open Go.RowKit OctMath StrMath PlMath
def WasB (w:WasT):Prop:=I64 w.id.idx∧w.id.ep<18446744073709551616∧I64 w.node
structure Wid (m:MetT):Prop where
 os:∀o ∈ m.objs,o.sum<4294967296
 is:∀x ∈ m.ints,x.obj.sum<4294967296
 ss:∀s ∈ m.sess,s.seq<18446744073709551616∧I64 s.code
 ws:∀w ∈ m.wass,WasB w
section
variable {P:PlF} {m:MetT}
theorem nodes_rng (h:Base P m) {o:ObjT} (f:FitM P m o):∀d ∈ o.nodes,1≤d∧d≤32:=by
 have g:=P.grpR o.key m.groups h.gs.1 h.gs.2
 have hg:=h.gs
 have hk:=h.k
 rw [f.nodes]
 exact P.rng (of_ok h o.epoch) (by omega) (by omega) (by rw [f.grp];exact g.1) (by rw [f.grp];omega)
theorem ep_le (e:m.mep≤m.last+1∧m.nep≤m.last+1) {o:ObjT} (f:FitM P m o):o.epoch≤m.last+1:=by
 rw [f.ep]
 unfold MetT.of
 split
 · exact e.1
 · exact e.2
theorem was_b (h:Base P m) (e:m.mep≤m.last+1∧m.nep≤m.last+1) (hl:m.last<9223372036854775808) {o:ObjT} (f:FitM P m o):∀w ∈ wastesOf o,WasB w:=by
 intro w hw
 have h1:=ep_le e f
 have h2:=nodes_rng h f
 have h3:=nodes_len h f
 have hk:=h.k
 unfold wastesOf at hw
 obtain⟨i,hi,rfl⟩:=List.mem_mapIdx.1 hw
 have h4:=h2 _ (List.getElem_mem hi)
 refine⟨⟨?_,?_⟩,?_,⟨?_,?_⟩⟩
 · show (-9223372036854775808:Int)≤(i:Int);omega
 · show (i:Int)≤9223372036854775807;omega
 · show o.epoch<_;omega
 · show (-9223372036854775808:Int)≤o.nodes[i];omega
 · show o.nodes[i]≤9223372036854775807;omega
theorem wid_waste (hw:Wid m) (h:Base P m) (e:m.mep≤m.last+1∧m.nep≤m.last+1) (hl:m.last<9223372036854775808) {o:ObjT} (f:FitM P m o):∀w ∈ wasteF m.wass o,WasB w:=fun w h1=>by
 rcases (mem_waste h.wass).1 h1 with h2 | h2
 · exact was_b h e hl f w h2
 · exact hw.ws w h2
theorem wid_give (hw:Wid m) (h:Base P m) (e:m.mep≤m.last+1∧m.nep≤m.last+1) (hl:m.last<9223372036854775808) {x:IntT} (hx:x ∈ m.ints):Wid (giveUpM m x) :=
 ⟨hw.os,fun y hy=>hw.is y ((mem_drop_ h.ints).1 hy).1,hw.ss,wid_waste hw h e hl (h.fitI x hx)⟩
theorem wid_away (hw:Wid m) (h:Base P m) (e:m.mep≤m.last+1∧m.nep≤m.last+1) (hl:m.last<9223372036854775808) (key:List Nat):Wid (awayM m key).1:=by
 unfold awayM
 cases ef:findR bytO ObjT.key key m.objs with
 | none=>exact hw
 | some o =>
   obtain⟨ho,-⟩:=(find_some h.objs).1 ef
   exact⟨fun y hy=>hw.os y ((mem_drop_ h.objs).1 hy).1,hw.is,hw.ss,wid_waste hw h e hl (h.fitO o ho)⟩
theorem wid_ses (hw:Wid m) (h:Ris natO SesT.client m.sess) {s:SesT} (h1:s.seq<18446744073709551616) (h2:I64 s.code):Wid (putSess m s) :=
 ⟨hw.os,hw.is,fun t ht=>by
  rcases (mem_put h).1 ht with rfl | ⟨h3,_⟩
  · exact⟨h1,h2⟩
  · exact hw.ss t h3,hw.ws⟩
theorem wid_ask (hw:Wid m) (h:Good P m) (e:m.mep≤m.last+1∧m.nep≤m.last+1) (hl:m.last<9223372036854775808) {c:CmdT} {m':MetT} (ea:askM m c = .inr m'):Wid m'∧Base P m'∧(m'.mep≤m'.last+1∧m'.nep≤m'.last+1)∧m'.last=m.last:=by
 obtain⟨hb,-,-,-,el,-,-,h1⟩:=ask_good h c ea
 rcases h1 with rfl | ⟨x,hx,rfl⟩
 · exact⟨hw,hb,e,rfl⟩
 · exact⟨wid_give hw h.base e hl hx,hb,e,rfl⟩
theorem i64_code {z:Int} (h:0≤z∧z≤10):I64 z:=⟨by omega,by omega⟩
theorem i64_0:I64 0:=i64_code ⟨by decide,by decide⟩
theorem i64_1:I64 1:=i64_code ⟨by decide,by decide⟩
theorem i64_3:I64 3:=i64_code ⟨by decide,by decide⟩
theorem wid_step (hw:Wid m) (h:Good P m) (e:m.mep≤m.last+1∧m.nep≤m.last+1) (hl:m.last<9223372036854775808) {c:CmdT} (h1:c.seq<18446744073709551616) (h2:c.sum<4294967296):Wid (stepM P m c).1:=by
 have sq:∀x ∈ m.ints,x.seq<18446744073709551616:=fun x hx=>by
  obtain⟨s,k1,-,k2⟩:=h.rel.bw x hx
  rw [k2.seq];exact (hw.ss s k1).1
 unfold stepM
 split
 · unfold beginM
   cases ea:askM m c with
   | inl r=>exact hw
   | inr m' =>
     obtain⟨k1,k2,-,-⟩:=wid_ask hw h e hl ea
     exact wid_ses (m:={ m' with ints:=m'.ints ++ [_] }) ⟨k1.os,fun x hx=>by
      rcases List.mem_append.1 hx with hx | hx
      · exact k1.is x hx
      · rw [List.mem_singleton.1 hx];exact h2,k1.ss,k1.ws⟩ k2.sess h1 i64_0
 split
 · unfold commitM
   cases ef:findR natO verI c.version m.ints with
   | none=>exact hw
   | some x =>
     obtain⟨hx,-⟩:=(find_some h.base.ints).1 ef
     have hb1:Base P { m with ints:=dropR natO verI c.version m.ints }:=h.base.less (os:=m.objs) (ws:=m.wass) h.base.objs (ris_drop h.base.ints) h.base.wass (fun _ k=>k) (fun y hy=>((mem_drop_ h.base.ints).1 hy).1)
     obtain⟨hb2,a1,-,-,-⟩:=away_base hb1 x.obj.key
     have w1:=wid_away (m:={ m with ints:=dropR natO verI c.version m.ints }) ⟨hw.os,fun y hy=>hw.is y ((mem_drop_ h.base.ints).1 hy).1,hw.ss,hw.ws⟩ hb1 e hl x.obj.key
     dsimp only
     generalize (awayM { m with ints:=dropR natO verI c.version m.ints } x.obj.key).1=m1' at *
     exact wid_ses (m:={ m1' with objs:=putR bytO ObjT.key x.obj m1'.objs }) ⟨fun o ho=>by
      rcases (mem_put hb2.objs).1 ho with rfl | ⟨k,_⟩
      · exact hw.is x hx
      · exact w1.os o k,w1.is,w1.ss,w1.ws⟩ hb2.sess (sq x hx) i64_1
 split
 · unfold abortM
   cases ef:findR natO verI c.version m.ints with
   | none=>exact hw
   | some x =>
     obtain⟨hx,-⟩:=(find_some h.base.ints).1 ef
     exact wid_ses (m:=giveUpM m x) (wid_give hw h.base e hl hx) h.base.sess (sq x hx) i64_3
 split
 · unfold removeM
   cases ea:askM m c with
   | inl r=>exact hw
   | inr m' =>
     obtain⟨k1,k2,k3,k4⟩:=wid_ask hw h e hl ea
     obtain⟨hb2,-⟩:=away_base k2 c.key
     exact wid_ses (m:=(awayM m' c.key).1) (wid_away k1 k2 k3 (by rw [k4];exact hl) c.key) hb2.sess h1 (i64_code (by show 0≤(if _ then (1:Int) else 2)∧(if _ then (1:Int) else 2)≤10;split <;> decide))
 split
 · unfold comingM
   split
   · exact⟨hw.os,hw.is,hw.ss,hw.ws⟩
   · exact hw
 split
 · unfold movedM
   cases ef:m.objs.find? (fun o=>o.version == c.version) with
   | none=>exact hw
   | some o =>
     obtain⟨ho,-⟩:=find_ver ef
     dsimp only
     split
     · exact⟨fun y hy=>by
        rcases (mem_put h.base.objs).1 hy with rfl | ⟨k,_⟩
        · exact hw.os o ho
        · exact hw.os y k,hw.is,hw.ss,wid_waste hw h.base e hl (h.base.fitO o ho)⟩
     · exact hw
 split
 · unfold cutM
   split
   · exact hw
   split
   · exact hw
   dsimp only
   split
   · exact⟨hw.os,hw.is,hw.ss,hw.ws⟩
   · exact⟨hw.os,hw.is,hw.ss,hw.ws⟩
 split
 · exact⟨hw.os,hw.is,hw.ss,fun w k=>hw.ws w ((mem_drop_ h.base.wass).1 k).1⟩
 split
 · unfold liveM
   split
   · dsimp only
     split
     · exact⟨hw.os,hw.is,hw.ss,hw.ws⟩
     · exact⟨hw.os,hw.is,hw.ss,hw.ws⟩
   · exact hw
 · exact hw
end
theorem Wid.last {m:MetT} (h:Wid m) (l:Nat):Wid { m with last:=l }:=⟨h.os,h.is,h.ss,h.ws⟩
theorem RunS.wid {m:MetT} {i:Nat} (h:RunS m i) (hw:Wid m) (hi:i≤100000) {c:CmdT} (h1:c.seq<18446744073709551616) (h2:c.sum<4294967296):Wid (applyM plF m (i+1) c).1 :=
 wid_step (hw.last _) (h.inv.good.later (by have:=h.last;omega)) (h.inv.ext.later (by have:=h.last;omega)).ep (by show i+1<_;omega) h1 h2
theorem new_wid (k n gs:Int) (ms:List (Int×Int)):Wid (newM k n gs ms):=⟨(fun o h=>by cases h),(fun o h=>by cases h),(fun o h=>by cases h),(fun o h=>by cases h)⟩
theorem i64_of {z:Int} (h1 : -1000000≤z) (h2:z≤1000000):I64 z:=⟨by omega,by omega⟩
theorem map_ok {ep:Nat} {ms:List (Int×Int)} (h1:ep<18446744073709551616) (h:chk ms=true):MapOk (ep,ms):=by
 have hc:=chk_up h
 refine⟨h1,fun y hy=>?_,by show ms.length≤_;have:=hc.2;omega⟩
 have:=m64_chk h y hy
 exact this
theorem RunS.ok {m:MetT} {i:Nat} (h:RunS m i) (hw:Wid m) (hi:i≤100000) (hk:(∀y ∈ m.objs,Byt y.key)∧(∀y ∈ m.ints,Byt y.obj.key)):MetOk m:=by
 have hb:=h.inv.good.base
 have hm:=h.may
 have hl:=h.last
 have hn:=h.n
 have he:=h.inv.ext.ep
 have obj:∀ {o:ObjT},FitM plF m o→o.sum<4294967296→Byt o.key→ObjOk o:=fun {o} f hs hy=>by
  have h1:=nodes_rng hb f
  have h2:=nodes_len hb f
  have h3:=ep_le he f
  have h4:=plF.grpR o.key m.groups hb.gs.1 hb.gs.2
  have h5:=hb.gs
  have h6:=f.size
  have h7:=f.grp
  have h8:=f.last
  have h9:=f.keyL
  exact⟨⟨hy,by omega⟩,by omega,i64_of (by omega) (by omega),hs,i64_of (by omega) (by omega),by omega,fun y k=>by have:=h1 y k;exact i64_of (by omega) (by omega),by omega⟩
 have hv:(m.objs.map (·.version) ++ m.ints.map verI).length≤100000+1:=nodup_nat hm.vers (fun x hx=>by
  rcases List.mem_append.1 hx with hx | hx
  · obtain⟨o,ho,rfl⟩:=List.mem_map.1 hx
    exact Nat.le_trans (hm.fitO o ho).last (by omega)
  · obtain⟨o,ho,rfl⟩:=List.mem_map.1 hx
    exact Nat.le_trans (hm.fitI o ho).last (by omega))
 rw [List.length_append,List.length_map,List.length_map] at hv
 have hs:=nodup_nat hm.sess.nodupK (b:=64) (fun x hx=>by
  obtain⟨o,ho,rfl⟩:=List.mem_map.1 hx
  exact (hm.sesR o ho).2.1)
 rw [List.length_map] at hs
 have hd:=nodup_int hm.down.nodup (b:=32) (fun x hx=>by have:=hm.downR x hx;omega)
 have hww:(m.wass.length:Int)≤300000:=by
  have hc:=h.cnt
  unfold cntM at hc
  have h1:0≤m.n*((m.objs.length:Int)+m.ints.length):=Int.mul_nonneg (by have:=hm.k;omega) (by omega)
  omega
 have hg:=hm.cutL
 have hg2:=hm.gs
 have hk1:=hm.k
 have e1:(chk m.mem && decide (m.n≤(wts m.mem:Int)))=true:=hm.map
 have e2:(chk m.nem && decide (m.n≤(wts m.nem:Int)))=true:=hm.next
 rw [Bool.and_eq_true] at e1 e2
 refine⟨i64_of (by omega) (by omega),i64_of (by omega) (by omega),i64_of (by omega) (by omega),map_ok (by omega) e1.1,map_ok (by omega) e2.1,⟨fun y k=>by have:=hm.cutR y k;exact i64_of (by omega) (by omega),by omega⟩,⟨fun o ho=>obj (hm.fitO o ho) (hw.os o ho) (hk.1 o ho),by omega⟩,⟨fun x hx=>?_,by omega⟩,⟨fun s k=>?_,by omega⟩,⟨fun w k=>?_,by omega⟩,⟨fun y k=>by have:=hm.downR y k;exact i64_of (by omega) (by omega),by omega⟩,by omega⟩
 · obtain⟨s,k1,-,k2⟩:=h.inv.good.rel.bw x hx
   have k3:=hm.sesR s k1
   exact⟨obj (hm.fitI x hx) (hw.is x hx) (hk.2 x hx),by rw [k2.cl];omega,by rw [k2.seq];exact (hw.ss s k1).1⟩
 · have k3:=hm.sesR s k
   have k4:=h.inv.ext.sv s k
   exact⟨by omega,(hw.ss s k).1,by omega,(hw.ss s k).2⟩
 · have k4:=h.inv.ext.wv w k
   have k5:=hw.ws w k
   exact⟨⟨by omega,k5.1,k5.2.1⟩,k5.2.2⟩
end
end Go.Proofs.YtdoneomahlfkbaaGreat
