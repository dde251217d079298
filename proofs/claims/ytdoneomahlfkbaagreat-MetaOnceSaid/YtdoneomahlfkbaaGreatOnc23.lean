/- A COMMAND APPLIED to a state that may be. (printed by gen_mek7.py); COMMANDS THAT COME IN: rows of them. (printed by gen_mel1.py); STATES THAT COMMAND -/
import Derived.Deep.Slices
import Derived.Deep.Fields
import Derived.ChangeSame
import Derived.Lib.SmallJoins
import Derived.Test.YtdoneomahlfkbaaGreatOnc22
set_option linter.unusedVariables false
set_option linter.unusedSimpArgs false
set_option maxRecDepth 100000
set_option maxHeartbeats 16000000
namespace Go.Proofs.YtdoneomahlfkbaaGreat
section
open Go.RowKit OctMath StrMath PlMath
def mZ:Array Value:=#[.int .i64 0,.int .i64 0,.int .i64 0,.int .u64 0,.slice none 0 0,.int .u64 0,.slice none 0 0,.slice none 0 0,.slice none 0 0,.slice none 0 0,.slice none 0 0,.slice none 0 0,.slice none 0 0,.int .u64 0]
theorem build_machine (m:MM) (w:World):(Instr.build 72 #[(0,.agg m.cs)]).run Tryz.prog w = .ok (.agg m.cs) w:=run_build w 72 _ _ (by kernel_rfl)
theorem wpl_build_run {P:Program} {ops:Array Oper} {rest:List Oper} {op:Oper} {a:Act} {w:World} {Q:Exit→Act→World→Prop} (hgd:op.guard=none) (t:TypeId) (parts:Array (Nat×Operand)) (ho:op.op = .build t parts) (ps:Array (Nat×Value)) (v:Value)
 (he:(parts.map fun (i,x)=>(i,a.eval x))=ps) (hrun:(Instr.build t ps).run P w = .ok v w) (h:wpList P ops Q rest (a.put op.dst v) w):wpList P ops Q (op :: rest) a w:=by
 refine wpList_plain hgd fun K hK=>?_
 unfold Oper.wp execOp
 simp only [ho,Sem.run_bind,he,hrun,Result.andThen_ok]
 exact hK _ _ h
structure Siz (x:MetT):Prop where
 wl:x.wass.length+1024≤33554432
 sl:x.sess.length+1≤16777216
 ol:x.objs.length+1≤16777216
 il:x.ints.length+1≤16777216
 cl:x.cut.length+1≤16777216
 dl:x.down.length+1≤16777216
def MM.setL (m:MM) (l:Nat):MM:={ m with x:={ m.x with last:=l } }
theorem mok_of {m:MM} (h:MayM plF m.x) (hz:Siz m.x) (l:Nat):MOk (m.setL l) :=
 ⟨h.wass,h.ints,h.sess,h.objs,fun x hx=>by rw [(h.fitI x hx).nodes];exact nodesR_lenP _ _ _,fun x hx=>by rw [(h.fitO x hx).nodes];exact nodesR_lenP _ _ _,hz.wl,hz.sl,hz.ol,hz.il⟩
theorem check_ok (m:MM) (w:World) (hI:Hid (MIn m w)) (hS:Hid (MSt m)) (hla:m.x.last<18446744073709551616) :
 Calls Tryz.prog 16 #[.agg m.cs] w fun e w'=>e = .returned (.int .i64 0)∧Below w.heap.size w w':=by
 have HMY:=Lh (fun W (h:Below w.heap.size w W)=>may_true m W (Lh (hI.out.later h)) hS hla)
 obtain⟨cs,ecs⟩:∃cs,m.cs=cs:=⟨_,rfl⟩
 have HCS:=Lh (show cs.size=14 from by rw [← ecs];rfl)
 have HCO:=Lh (show cs.toList.all (·.oneCell')=true from by rw [← ecs];rfl)
 rw [ecs] at HMY
 rw [ecs]
 clear ecs
 go_enter Tryz.func16,Tryz.ntmps16
 go_upto_region 1 with (fail)
 have HB:=Lh (Blk.new w 34 cs)
 have HB0:=Lh (show Below w.heap.size w (w.alloc (.cells cs 34)) from (Below.refl _ _).alloc (Nat.le_refl _) _)
 obtain⟨w1,ew1⟩:∃w1,w.alloc (.cells cs 34)=w1:=⟨_,rfl⟩
 rw [ew1] at HB HB0 ⊢
 clear ew1
 go_wp2_with (first
  | (refine wpl_load_blk rfl 34 (.tmp 1) rfl w.heap.size 34 cs _ rfl HB.out Tryz.underlying34 rfl (by rw [HCS.out];exact Tryz.szSt) ?_)
  | (go_at_call 17;refine (HMY.out w1 HB0.out).mono ?_;rintro e w2 ⟨rfl,hb2⟩;have HB2:=Lh hb2;clear hb2))
 go_ret
 exact⟨rfl,HB0.out.trans (HB2.out.mono HB0.out.size)⟩
theorem other_any (G:List Nat) (g:Nat) (m:MM) (c:CmdT) (CA:Option Addr) (cc:Nat) (w:World) (hM:Hid (MS G g m w)) :
 Calls Tryz.prog 18 #[.agg (cmdCs c CA cc)] w (RetRes G g (m.x,whenC false) w):=by
 go_enter Tryz.func18,Tryz.ntmps18
 go_upto_region 1 with (fail)
 have hR:=Blk.new (w.alloc (.cells (cmdCs c CA cc) 48)) 39 rZ
 rw [show (w.alloc (.cells (cmdCs c CA cc) 48)).heap.size=w.heap.size+1 from by simp] at hR
 have hb0:Below w.heap.size w ((w.alloc (.cells (cmdCs c CA cc) 48)).alloc (.cells rZ 39)):=((Below.refl _ _).alloc (Nat.le_refl _) _).alloc (by simp) _
 have eZ:(.cells #[.int .i64 0,.int .u64 0,.slice none 0 0,.int .u64 0] 39:Obj) = .cells rZ 39:=rfl
 rw [eZ]
 obtain⟨w1,ew1⟩:∃w1,(w.alloc (.cells (cmdCs c CA cc) 48)).alloc (.cells rZ 39)=w1:=⟨_,rfl⟩
 rw [ew1] at hR hb0 ⊢
 have HR:=Lh hR
 have HB0:=Lh hb0
 clear ew1 hR hb0 eZ
 go_wp2_with (first
  | (go_at_call 19;refine (when_any _ _).mono ?_;rintro e w10 ⟨rfl,hb10⟩;have HB10:=Lh hb10;clear hb10)
  | (refine wpl_store_blk rfl 39 (.tmp 2) _ rfl (w.heap.size+1) 39 rZ _ rfl rfl (HR.out.below HB10.out HR.out.lt) rfl Tryz.szR rfl ?_;intro w11 hB11 hO11))
 have hb:Below w.heap.size w w11:=HB0.out.trans ((HB10.out.mono HB0.out.size).trans (hO11.out.below (by omega)))
 refine bodyPost_ret (res_c Tryz.results18 rfl (load_blk hB11.out Tryz.underlying39 rfl Tryz.szR)) rfl ?_
 exact RetRes.code rfl rfl (TurnM.mk (gb_below hb _) (hM.out.later hb) rfl)
def RetApp (p:MetT×ResT) (G0:List Nat) (w:World) (e:Ending) (w':World):Prop:=∃m' A c,e = .returned (.tuple #[.agg m'.cs,.agg (rcs p.2 A c),.int .i64 0])∧MIn m' w'∧m'.x=p.1∧Below w.heap.size w w'∧∀k ∈ G0,m'.All (·.Off k)
theorem TurnM.sub {G:List Nat} {g:Nat} {X:MetT} {w w':World} (h:TurnM G g X w w') (hg:w.heap.size≤g):Below w.heap.size w w':=gb_new (Below.refl _ _) hg (Nat.le_refl _) h.1
theorem ms_new {m:MM} {ix:Nat} {w w4:World} {g:Nat} {G:List Nat} (hI:MIn m w) (hb:Below w.heap.size w w4) (hB:Blk w4 g 72 (m.setL ix).cs) (hG:∀k ∈ G,m.All (·.Off k)∧k<w4.heap.size) (hg:g ∈ G):MS G g (m.setL ix) w4 :=
 have h:=hI.later hb
 ⟨hB,⟨⟨fun r k=>h.rows.top r k,fun r k=>h.rows.os r k,fun r k=>h.rows.is r k⟩,h.os,h.is,⟨h.wf.ok,h.wf.ik,h.wf.ol,h.wf.il,h.wf.sl,h.wf.wl,h.wf.cl,h.wf.dl⟩⟩,
  fun k hk=>⟨fun r q=>(hG k hk).1.top r q,fun r q=>(hG k hk).1.os r q,fun r q=>(hG k hk).1.is r q⟩,hg,fun k hk=>(hG k hk).2⟩
theorem apply_any (m:MM) (ix:Nat) (c:CmdT) (CA:Option Addr) (cc:Nat) (w:World) (hI:Hid (MIn m w)) (hS:Hid (MSt m)) (hz:Hid (Siz m.x)) (hla:m.x.last<ix) (hix:ix<18446744073709551616)
 (hcm:Hid ((⟨2,CA,cc,c.mem.length,mcells c.mem⟩:RowT).In w)) (h64:M64 c.mem) (hkb:Byt c.key) (hkl:c.key.length≤maxLen) (G0:List Nat) (hG0:Hid (∀k ∈ G0,k<w.heap.size∧m.All (·.Off k)∧(⟨2,CA,cc,c.mem.length,mcells c.mem⟩:RowT).Off k)) :
 Calls Tryz.prog 9 #[.agg m.cs,.int .u64 (ix:Int),.agg (cmdCs c CA cc)] w (RetApp (applyM plF m.x ix c) G0 w):=by
 have HMY:=Lh (fun W (h:Below w.heap.size w W)=>may_true m W (Lh (hI.out.later h)) hS (by omega))
 have HBD:=Lh (fun W=>build_machine m W)
 obtain⟨cs,ecs⟩:∃cs,m.cs=cs:=⟨_,rfl⟩
 have ECS:=Lh ecs
 have V13:=Lh (show cs[13]?=some (.int .u64 (m.x.last:Int)) from by rw [← ecs];rfl)
 have HCS:=Lh (show cs.size=14 from by rw [← ecs];rfl)
 have HCO:=Lh (show cs.toList.all (·.oneCell')=true from by rw [← ecs];rfl)
 rw [ecs] at HMY HBD
 rw [ecs]
 clear ecs
 obtain⟨kd,ekd⟩:∃kd,c.kind=kd:=⟨_,rfl⟩
 have EKD:=Lh ekd
 obtain⟨ks,eks⟩:∃ks,cmdCs c CA cc=ks:=⟨_,rfl⟩
 have EKS:=Lh eks
 have K0:=Lh (show ks[0]?=some (.int .i64 kd) from by rw [← eks,← ekd];rfl)
 have HKS:=Lh (show ks.size=16 from by rw [← eks];rfl)
 have HKO:=Lh (show ks.toList.all (·.oneCell')=true from by rw [← eks];rfl)
 rw [eks]
 clear eks ekd
 go_enter Tryz.func9,Tryz.ntmps9
 go_upto_region 1 with (fail)
 have h1:=(((Blk.new w 34 cs).alloc (.cells ks 48)).alloc (.cells mZ 34)).alloc (.cells rZ 39)
 have h2:=((Blk.new (w.alloc (.cells cs 34)) 48 ks).alloc (.cells mZ 34)).alloc (.cells rZ 39)
 have h3:=(Blk.new ((w.alloc (.cells cs 34)).alloc (.cells ks 48)) 34 mZ).alloc (.cells rZ 39)
 have h4:=Blk.new (((w.alloc (.cells cs 34)).alloc (.cells ks 48)).alloc (.cells mZ 34)) 39 rZ
 have s1:(w.alloc (.cells cs 34)).heap.size=w.heap.size+1:=by simp
 have s2:((w.alloc (.cells cs 34)).alloc (.cells ks 48)).heap.size=w.heap.size+1+1:=by simp
 have s3:(((w.alloc (.cells cs 34)).alloc (.cells ks 48)).alloc (.cells mZ 34)).heap.size=w.heap.size+1+1+1:=by simp
 rw [s1] at h2
 rw [s2] at h3
 rw [s3] at h4
 have hb0:Below w.heap.size w ((((w.alloc (.cells cs 34)).alloc (.cells ks 48)).alloc (.cells mZ 34)).alloc (.cells rZ 39)):=((((Below.refl _ _).alloc (Nat.le_refl _) _).alloc (by simp) _).alloc (by simp;omega) _).alloc (by simp;omega) _
 have eZ:(.cells #[.int .i64 0,.int .u64 0,.slice none 0 0,.int .u64 0] 39:Obj) = .cells rZ 39:=rfl
 have eM:(.cells #[.int .i64 0,.int .i64 0,.int .i64 0,.int .u64 0,.slice none 0 0,.int .u64 0,.slice none 0 0,.slice none 0 0,.slice none 0 0,.slice none 0 0,.slice none 0 0,.slice none 0 0,.slice none 0 0,.int .u64 0] 34:Obj) = .cells mZ 34:=rfl
 rw [eZ,eM]
 obtain⟨w1,ew1⟩:∃w1,(((w.alloc (.cells cs 34)).alloc (.cells ks 48)).alloc (.cells mZ 34)).alloc (.cells rZ 39)=w1:=⟨_,rfl⟩
 rw [ew1] at h1 h2 h3 h4 hb0 ⊢
 have HB:=Lh h1
 have HK:=Lh h2
 have HZ:=Lh h3
 have HR:=Lh h4
 have HB0:=Lh hb0
 clear ew1 h1 h2 h3 h4 hb0 s1 s2 s3 eZ eM
 obtain⟨b0,e0⟩:∃b0,w.heap.size=b0:=⟨_,rfl⟩
 have E0:=Lh e0
 rw [e0] at HB HK HZ HR ⊢
 clear e0
 have d1:decide ((ix:Int)≤(m.x.last:Int))=false:=decide_eq_false (by omega)
 have d2:decide (ix≤m.x.last)=false:=decide_eq_false (by omega)
 go_upto_region 5 with (first
  | (refine wpl_load_blk rfl 34 (.tmp 3) rfl b0 34 cs _ rfl (by first | exact HB.out | exact HB2.out) Tryz.underlying34 rfl (by rw [HCS.out];exact Tryz.szSt) ?_)
  | (go_at_call 17;refine (HMY.out w1 HB0.out).mono ?_;rintro e w2 ⟨rfl,hb2⟩;have B12:=Lh hb2;have HB2:=Lh (HB.out.below hb2 HB.out.lt);have k13:=(HB2.out.cell 13).trans V13.out;clear hb2))
 go_step
 refine wpl_load_blk rfl 34 (.tmp 3) rfl b0 34 cs _ rfl HB2.out Tryz.underlying34 rfl (by rw [HCS.out];exact Tryz.szSt) ?_
 try simp only [Act.put,pA9,pZ9,pS9]
 refine wpl_build_run rfl 72 #[(0,.tmp 25)] rfl #[(0,.agg cs)] (.agg cs) (by simp only [List.map_toArray,List.map_cons,List.map_nil];rfl) (HBD.out _) ?_
 try simp only [Act.put,pA9,pZ9,pS9]
 go_upto_region 6 with (fail)
 have hG:=Blk.new w2 72 cs
 have hb3:Below w2.heap.size w2 (w2.alloc (.cells cs 72)):=(Below.refl _ _).alloc (Nat.le_refl _) _
 obtain⟨w3,ew3⟩:∃w3,w2.alloc (.cells cs 72)=w3:=⟨_,rfl⟩
 have hge:b0+1+1+1<w2.heap.size:=(HR.out.below B12.out HR.out.lt).lt
 rw [ew3] at hG hb3 ⊢
 obtain⟨g,eg⟩:∃g,w2.heap.size=g:=⟨_,rfl⟩
 have hb23:=hb3
 rw [eg] at hG hge ⊢
 have HGE:=Lh hge
 have hb13:Below w1.heap.size w1 w3:=B12.out.trans (hb23.mono B12.out.size)
 have hw1g:w1.heap.size≤g:=by rw [← eg];exact B12.out.size
 have HG:=Lh hG
 have B13:=Lh hb13
 have HWG:=Lh hw1g
 clear hG hb3 hb23 hge hb13 hw1g ew3 eg k13 d1 d2
 have y13:=(HG.out.cell 13).trans V13.out
 have z13:=HG.out.frozen 13
 go_upto_region 8 with (fail)
 have GS:=HG.out.set_ 13 (.int .u64 (ix:Int))
 have OS:=Only.set_ w3 g 13 (.int .u64 (ix:Int))
 obtain⟨w4,ew4⟩:∃w4,w3.setCell ⟨g,13,none⟩ (.int .u64 (ix:Int))=w4:=⟨_,rfl⟩
 rw [ew4] at GS OS ⊢
 have hb14:Below w1.heap.size w1 w4:=B13.out.trans (OS.below HWG.out)
 have B04:=Lh (HB0.out.trans (hb14.mono HB0.out.size))
 have HK4:=Lh (HK.out.below hb14 HK.out.lt)
 have HZ4:=Lh (HZ.out.below hb14 HZ.out.lt)
 have HR4:=Lh (HR.out.below hb14 HR.out.lt)
 have HGW:=Lh (show w.heap.size≤g from Nat.le_trans HB0.out.size HWG.out)
 have HM4:=Lh (ms_new (ix:=ix) (G:=g :: (b0+1+1) :: (b0+1+1+1) :: G0) hI.out B04.out (by rw [← ECS.out] at GS;exact GS) (fun k hk=>by
  have h1:=HR4.out.lt
  have h2:=GS.lt
  have h3:=HGW.out
  have h4:=E0.out
  have h5:=HGE.out
  have hf:w.heap.size≤k→m.All (·.Off k):=fun h=>hI.out.rows.imp fun r hr=>hr.off h
  simp only [List.mem_cons] at hk
  rcases hk with hk | hk | hk | hk
  · exact⟨hf (by omega),by omega⟩
  · exact⟨hf (by omega),by omega⟩
  · exact⟨hf (by omega),by omega⟩
  · have h6:=hG0.out k hk
    exact⟨h6.2.1,Nat.lt_of_lt_of_le h6.1 B04.out.size⟩) List.mem_cons_self)
 have HCM:=Lh (show CmIn (g :: (b0+1+1) :: (b0+1+1+1) :: G0) c CA cc w4 from ⟨hcm.out.later B04.out,fun k hk=>by
  have h3:=HGW.out
  have h4:=E0.out
  simp only [List.mem_cons] at hk
  rcases hk with hk | hk | hk | hk
  · exact hcm.out.off (by omega)
  · exact hcm.out.off (by omega)
  · exact hcm.out.off (by omega)
  · exact (hG0.out k hk).2.2,h64⟩)
 have HOK:=Lh (mok_of hS.out.may hz.out ix)
 have k0:=(HK4.out.cell 0).trans K0.out
 clear y13 z13 GS OS ew4 hb14 HB HK HZ HR HG B12 B13 HMY HBD HB2 V13 HCS HCO ECS
 have HAP:=Lh (show applyM plF m.x ix c=stepM plF (m.setL ix).x c from rfl)
 unfold stepM at HAP
 rw [EKD.out] at HAP
 obtain⟨G,eG⟩:∃G,g :: (b0+1+1) :: (b0+1+1+1) :: G0=G:=⟨_,rfl⟩
 have EG:=Lh eG
 rw [eG] at HM4 HCM
 clear eG
 have HD:=Lh (show ((kd == 1)=true∧(kd == 2)=false∧(kd == 3)=false∧(kd == 4)=false∧(kd == 5)=false∧(kd == 6)=false∧(kd == 7)=false∧(kd == 8)=false∧(kd == 9)=false∧Hid (Calls Tryz.prog 20 #[.pointer (some ⟨g,0,none⟩),.agg ks] w4 (RetRes G g (applyM plF m.x ix c) w4))) ∨
  ((kd == 1)=false∧(kd == 2)=true∧(kd == 3)=false∧(kd == 4)=false∧(kd == 5)=false∧(kd == 6)=false∧(kd == 7)=false∧(kd == 8)=false∧(kd == 9)=false∧Hid (Calls Tryz.prog 21 #[.pointer (some ⟨g,0,none⟩),.agg ks] w4 (RetRes G g (applyM plF m.x ix c) w4))) ∨
  ((kd == 1)=false∧(kd == 2)=false∧(kd == 3)=true∧(kd == 4)=false∧(kd == 5)=false∧(kd == 6)=false∧(kd == 7)=false∧(kd == 8)=false∧(kd == 9)=false∧Hid (Calls Tryz.prog 22 #[.pointer (some ⟨g,0,none⟩),.agg ks] w4 (RetRes G g (applyM plF m.x ix c) w4))) ∨
  ((kd == 1)=false∧(kd == 2)=false∧(kd == 3)=false∧(kd == 4)=true∧(kd == 5)=false∧(kd == 6)=false∧(kd == 7)=false∧(kd == 8)=false∧(kd == 9)=false∧Hid (Calls Tryz.prog 23 #[.pointer (some ⟨g,0,none⟩),.agg ks] w4 (RetRes G g (applyM plF m.x ix c) w4))) ∨
  ((kd == 1)=false∧(kd == 2)=false∧(kd == 3)=false∧(kd == 4)=false∧(kd == 5)=true∧(kd == 6)=false∧(kd == 7)=false∧(kd == 8)=false∧(kd == 9)=false∧Hid (Calls Tryz.prog 24 #[.pointer (some ⟨g,0,none⟩),.agg ks] w4 (RetRes G g (applyM plF m.x ix c) w4))) ∨
  ((kd == 1)=false∧(kd == 2)=false∧(kd == 3)=false∧(kd == 4)=false∧(kd == 5)=false∧(kd == 6)=true∧(kd == 7)=false∧(kd == 8)=false∧(kd == 9)=false∧Hid (Calls Tryz.prog 25 #[.pointer (some ⟨g,0,none⟩),.agg ks] w4 (RetRes G g (applyM plF m.x ix c) w4))) ∨
  ((kd == 1)=false∧(kd == 2)=false∧(kd == 3)=false∧(kd == 4)=false∧(kd == 5)=false∧(kd == 6)=false∧(kd == 7)=true∧(kd == 8)=false∧(kd == 9)=false∧Hid (Calls Tryz.prog 26 #[.pointer (some ⟨g,0,none⟩),.agg ks] w4 (RetRes G g (applyM plF m.x ix c) w4))) ∨
  ((kd == 1)=false∧(kd == 2)=false∧(kd == 3)=false∧(kd == 4)=false∧(kd == 5)=false∧(kd == 6)=false∧(kd == 7)=false∧(kd == 8)=true∧(kd == 9)=false∧Hid (Calls Tryz.prog 27 #[.pointer (some ⟨g,0,none⟩),.agg ks] w4 (RetRes G g (applyM plF m.x ix c) w4))) ∨
  ((kd == 1)=false∧(kd == 2)=false∧(kd == 3)=false∧(kd == 4)=false∧(kd == 5)=false∧(kd == 6)=false∧(kd == 7)=false∧(kd == 8)=false∧(kd == 9)=true∧Hid (Calls Tryz.prog 28 #[.pointer (some ⟨g,0,none⟩),.agg ks] w4 (RetRes G g (applyM plF m.x ix c) w4))) ∨
  ((kd == 1)=false∧(kd == 2)=false∧(kd == 3)=false∧(kd == 4)=false∧(kd == 5)=false∧(kd == 6)=false∧(kd == 7)=false∧(kd == 8)=false∧(kd == 9)=false∧Hid (Calls Tryz.prog 18 #[.agg ks] w4 (RetRes G g (applyM plF m.x ix c) w4))) from by
  rcases (show kd=1∨kd=2∨kd=3∨kd=4∨kd=5∨kd=6∨kd=7∨kd=8∨kd=9∨(kd≠1∧kd≠2∧kd≠3∧kd≠4∧kd≠5∧kd≠6∧kd≠7∧kd≠8∧kd≠9) from by omega) with hk | hk | hk | hk | hk | hk | hk | hk | hk | ⟨h1,h2,h3,h4,h5,h6,h7,h8,h9⟩
  · rw [hk] at HAP
    have HC:=begin_any G g (m.setL ix) c CA cc w4 HM4 HOK hkb hkl hS.out.n64
    rw [EKS.out] at HC
    have HC:=HC.mono (fun e w1 h=>ret_eq (q:=applyM plF m.x ix c) (by rw [HAP.out];rfl) h)
    exact .inl ⟨by rw [hk];rfl,by rw [hk];rfl,by rw [hk];rfl,by rw [hk];rfl,by rw [hk];rfl,by rw [hk];rfl,by rw [hk];rfl,by rw [hk];rfl,by rw [hk];rfl,Lh HC⟩
  · rw [hk] at HAP
    have HC:=commit_any G g (m.setL ix) c CA cc w4 HM4 (Lh HOK.out.rw) (Lh HOK.out.ri) (Lh HOK.out.rs) (Lh HOK.out.ni) (by have:=HOK.out.wl;omega) HOK.out.sl (Lh HOK.out.ro) (Lh HOK.out.no) HOK.out.ol
    rw [EKS.out] at HC
    have HC:=HC.mono (fun e w1 h=>ret_eq (q:=applyM plF m.x ix c) (by rw [HAP.out];rfl) h)
    exact .inr (.inl ⟨by rw [hk];rfl,by rw [hk];rfl,by rw [hk];rfl,by rw [hk];rfl,by rw [hk];rfl,by rw [hk];rfl,by rw [hk];rfl,by rw [hk];rfl,by rw [hk];rfl,Lh HC⟩)
  · rw [hk] at HAP
    have HC:=abort_any G g (m.setL ix) c CA cc w4 HM4 (Lh HOK.out.rw) (Lh HOK.out.ri) (Lh HOK.out.rs) (Lh HOK.out.ni) (by have:=HOK.out.wl;omega) HOK.out.sl
    rw [EKS.out] at HC
    have HC:=HC.mono (fun e w1 h=>ret_eq (q:=applyM plF m.x ix c) (by rw [HAP.out];rfl) h)
    exact .inr (.inr (.inl ⟨by rw [hk];rfl,by rw [hk];rfl,by rw [hk];rfl,by rw [hk];rfl,by rw [hk];rfl,by rw [hk];rfl,by rw [hk];rfl,by rw [hk];rfl,by rw [hk];rfl,Lh HC⟩))
  · rw [hk] at HAP
    have HC:=remove_any G g (m.setL ix) c CA cc w4 HM4 HOK hkb (by have:=hkl;unfold maxLen at this;omega)
    rw [EKS.out] at HC
    have HC:=HC.mono (fun e w1 h=>ret_eq (q:=applyM plF m.x ix c) (by rw [HAP.out];rfl) h)
    exact .inr (.inr (.inr (.inl ⟨by rw [hk];rfl,by rw [hk];rfl,by rw [hk];rfl,by rw [hk];rfl,by rw [hk];rfl,by rw [hk];rfl,by rw [hk];rfl,by rw [hk];rfl,by rw [hk];rfl,Lh HC⟩)))
  · rw [hk] at HAP
    have HC:=coming_any G g (m.setL ix) c CA cc w4 HM4 HCM
    rw [EKS.out] at HC
    have HC:=HC.mono (fun e w1 h=>ret_eq (q:=applyM plF m.x ix c) (by rw [HAP.out];rfl) h)
    exact .inr (.inr (.inr (.inr (.inl ⟨by rw [hk];rfl,by rw [hk];rfl,by rw [hk];rfl,by rw [hk];rfl,by rw [hk];rfl,by rw [hk];rfl,by rw [hk];rfl,by rw [hk];rfl,by rw [hk];rfl,Lh HC⟩))))
  · rw [hk] at HAP
    have HC:=moved_any G g (m.setL ix) c CA cc w4 HM4 HOK (Lh hS.out.n64)
    rw [EKS.out] at HC
    have HC:=HC.mono (fun e w1 h=>ret_eq (q:=applyM plF m.x ix c) (by rw [HAP.out];rfl) h)
    exact .inr (.inr (.inr (.inr (.inr (.inl ⟨by rw [hk];rfl,by rw [hk];rfl,by rw [hk];rfl,by rw [hk];rfl,by rw [hk];rfl,by rw [hk];rfl,by rw [hk];rfl,by rw [hk];rfl,by rw [hk];rfl,Lh HC⟩)))))
  · rw [hk] at HAP
    have HC:=cut_any G g (m.setL ix) c CA cc w4 HM4 (Lh hS.out.may.cut) hz.out.cl
    rw [EKS.out] at HC
    have HC:=HC.mono (fun e w1 h=>ret_eq (q:=applyM plF m.x ix c) (by rw [HAP.out];rfl) h)
    exact .inr (.inr (.inr (.inr (.inr (.inr (.inl ⟨by rw [hk];rfl,by rw [hk];rfl,by rw [hk];rfl,by rw [hk];rfl,by rw [hk];rfl,by rw [hk];rfl,by rw [hk];rfl,by rw [hk];rfl,by rw [hk];rfl,Lh HC⟩))))))
  · rw [hk] at HAP
    have HC:=gone_any G g (m.setL ix) c CA cc w4 HM4 (Lh HOK.out.rw)
    rw [EKS.out] at HC
    have HC:=HC.mono (fun e w1 h=>ret_eq (q:=applyM plF m.x ix c) (by rw [HAP.out];rfl) h)
    exact .inr (.inr (.inr (.inr (.inr (.inr (.inr (.inl ⟨by rw [hk];rfl,by rw [hk];rfl,by rw [hk];rfl,by rw [hk];rfl,by rw [hk];rfl,by rw [hk];rfl,by rw [hk];rfl,by rw [hk];rfl,by rw [hk];rfl,Lh HC⟩)))))))
  · rw [hk] at HAP
    have HC:=live_any G g (m.setL ix) c CA cc w4 HM4 (Lh hS.out.may.down) hz.out.dl
    rw [EKS.out] at HC
    have HC:=HC.mono (fun e w1 h=>ret_eq (q:=applyM plF m.x ix c) (by rw [HAP.out];rfl) h)
    exact .inr (.inr (.inr (.inr (.inr (.inr (.inr (.inr (.inl ⟨by rw [hk];rfl,by rw [hk];rfl,by rw [hk];rfl,by rw [hk];rfl,by rw [hk];rfl,by rw [hk];rfl,by rw [hk];rfl,by rw [hk];rfl,by rw [hk];rfl,Lh HC⟩))))))))
  · rw [if_neg h1,if_neg h2,if_neg h3,if_neg h4,if_neg h5,if_neg h6,if_neg h7,if_neg h8,if_neg h9] at HAP
    have HC:=other_any G g (m.setL ix) c CA cc w4 HM4
    rw [EKS.out] at HC
    have HC:=HC.mono (fun e w1 h=>ret_eq (q:=applyM plF m.x ix c) (by rw [HAP.out]) h)
    exact .inr (.inr (.inr (.inr (.inr (.inr (.inr (.inr (.inr (⟨beq_eq_false_iff_ne.2 h1,beq_eq_false_iff_ne.2 h2,beq_eq_false_iff_ne.2 h3,beq_eq_false_iff_ne.2 h4,beq_eq_false_iff_ne.2 h5,beq_eq_false_iff_ne.2 h6,beq_eq_false_iff_ne.2 h7,beq_eq_false_iff_ne.2 h8,beq_eq_false_iff_ne.2 h9,Lh HC⟩))))))))))
 clear HAP HCM HOK
 rcases HD.out with ⟨t1,t2,t3,t4,t5,t6,t7,t8,t9,HC⟩ | ⟨t1,t2,t3,t4,t5,t6,t7,t8,t9,HC⟩ | ⟨t1,t2,t3,t4,t5,t6,t7,t8,t9,HC⟩ | ⟨t1,t2,t3,t4,t5,t6,t7,t8,t9,HC⟩ | ⟨t1,t2,t3,t4,t5,t6,t7,t8,t9,HC⟩ | ⟨t1,t2,t3,t4,t5,t6,t7,t8,t9,HC⟩ | ⟨t1,t2,t3,t4,t5,t6,t7,t8,t9,HC⟩ | ⟨t1,t2,t3,t4,t5,t6,t7,t8,t9,HC⟩ | ⟨t1,t2,t3,t4,t5,t6,t7,t8,t9,HC⟩ | ⟨t1,t2,t3,t4,t5,t6,t7,t8,t9,HC⟩
 all_goals
  clear HD
  go_upto_region 28 with (first
   | (refine wpl_load_blk rfl 48 (.tmp 5) rfl (b0+1) 48 ks _ rfl HK4.out Tryz.underlying48 rfl (by rw [HKS.out];exact Tryz.szCm) ?_)
   | ((first | go_at_call 20 | go_at_call 21 | go_at_call 22 | go_at_call 23 | go_at_call 24 | go_at_call 25 | go_at_call 26 | go_at_call 27 | go_at_call 28 | go_at_call 18);refine HC.out.mono ?_;rintro e w5 ⟨⟨A5,c5,rfl,_⟩,hg5,m5,hm5,hx5⟩;have HG5:=Lh hg5;have HM5:=Lh hm5;have HX5:=Lh hx5;clear hg5 hm5 hx5)
   | (refine wpl_store_blk rfl 39 (.tmp 11) (.tmp 73) rfl w5.heap.size 39 rZ _ rfl rfl (Blk.new w5 _ _) rfl Tryz.szR rfl ?_;intro w6 hB6 hO6))
  clear t1 t2 t3 t4 t5 t6 t7 t8 t9 k0
  have hb56:Below w5.heap.size w5 w6:=((Below.refl _ _).alloc (Nat.le_refl _) _).trans (hO6.out.below (Nat.le_refl _))
  have HT6:=hB6
  have HM6:=Lh (HM5.out.later hb56)
  have hgb:w4.grownBy w6 (some g):=gb_trans HG5.out (gb_below hb56 _)
  have HZ6:=Lh (HZ4.out.gb hgb (by have:=HGE.out;omega))
  have HR6:=Lh (HR4.out.gb hgb (by have:=HGE.out;omega))
  have B06:=Lh (gb_new B04.out HGW.out B04.out.size hgb)
  have h114:=HG5.out.size
  obtain⟨b11,e11⟩:∃b11,w5.heap.size=b11:=⟨_,rfl⟩
  rw [e11] at HT6 h114 ⊢
  have H11:=Lh (show b0+1+1+1<b11∧g<b11 from by
   have h2:=HR4.out.lt
   have h3:=HM4.out.blk.lt
   omega)
  clear e11 h114 hB6 hO6 hb56 hgb HM5 HG5 HZ4 HR4 HM4 HK4
  obtain⟨mcs,emcs⟩:∃mcs,m5.cs=mcs:=⟨_,rfl⟩
  have EMC:=Lh emcs
  have EMZ:=Lh (show mcs.size=14 from by rw [← emcs];rfl)
  have EMO:=Lh (show mcs.toList.all (·.oneCell')=true from by rw [← emcs];rfl)
  have HGM:=Lh (show Blk w6 g 72 mcs from by rw [← emcs];exact HM6.out.blk)
  clear emcs
  obtain⟨rr,err⟩:∃rr,rcs (applyM plF m.x ix c).2 A5 c5=rr:=⟨_,rfl⟩
  have ERR:=Lh err
  have HRZ:=Lh (show rr.size=4 from by rw [← err];rfl)
  have HRO:=Lh (show rr.toList.all (·.oneCell')=true from by rw [← err];rfl)
  rw [err] at HT6
  clear err
  refine wp_region_late (S0:=fun w'=>Blk w' g 72 mcs∧Blk w' b11 39 rr) (S:=fun _=>True) 6 8 (by kernel_rfl) rfl ⟨⟨HGM.out.drew,HT6.out.drew⟩,trivial⟩ (fun wd hwd hH=>?_)
  have DW:=Lh (show Below w6.heap.size w6 wd from by rw [hwd];exact (Below.refl _ _).drew)
  clear hwd
  refine tS 0 rfl ?_ hH ?_ ?_
  rotate_left
  · (intro wx hx;obtain⟨_,_⟩:=hx;go_simp <;> with_reducible rfl)
  try simp only [Act.put,pA9,pZ9,pS9]
  refine tS 1 rfl ?_ hH ?_ ?_
  rotate_left
  · (intro wx hx;obtain⟨_,_⟩:=hx;go_simp <;> with_reducible rfl)
  try simp only [Act.put,pA9,pZ9,pS9]
  refine tS 2 rfl ?_ hH ?_ ?_
  rotate_left
  · (intro wx hx;obtain⟨_,_⟩:=hx;go_simp <;> with_reducible rfl)
  try simp only [Act.put,pA9,pZ9,pS9]
  refine wpAnyT_stay 3 rfl (by kernel_rfl) (fun _ _ _ h=>h) (yields_load_blk rfl 34 (.tmp 76) rfl g 72 mcs _ rfl (fun w' hw'=>hw'.1) Tryz.underlying34 rfl (by rw [EMZ.out];exact Tryz.szSt)) ⟨hH.1,fun _=>hH.2⟩ ?_
  try simp only [Act.put,pA9,pZ9,pS9]
  refine wpAnyT_stay 4 rfl (by kernel_rfl) (fun _ _ _ h=>h) (yields_load_blk rfl 39 (.tmp 11) rfl b11 39 rr _ rfl (fun w' hw'=>hw'.2) Tryz.underlying39 rfl (by rw [HRZ.out];exact Tryz.szR)) ⟨hH.1,fun _=>hH.2⟩ ?_
  try simp only [Act.put,pA9,pZ9,pS9]
  refine wpAnyT_one 5 rfl (by kernel_rfl) (fun K hQ=>?_)
  refine step_store_blk rfl 34 (.tmp 6) (.tmp 77) rfl (b0+1+1) 34 mZ mcs rfl rfl (HZ6.out.below DW.out HZ6.out.lt) (by rw [EMZ.out];rfl) (by rw [EMZ.out];exact Tryz.szSt) EMO.out ?_
  intro w8 hB8 hO8
  refine hQ.out _ _ ?_ (fun hH5=>?_)
  · exact⟨⟨hO8.out.blk hH.1.1 (by have:=HGE.out;omega),hO8.out.blk hH.1.2 (by have:=H11.out;omega)⟩,trivial⟩
  clear hQ K
  try simp only [Act.put,pA9,pZ9,pS9]
  refine wpAnyT_last 6 rfl (by kernel_rfl) (by decide) (fun K hQ=>?_)
  refine step_store_blk rfl 39 (.tmp 7) (.tmp 78) rfl (b0+1+1+1) 39 rZ rr rfl rfl (hO8.out.blk (HR6.out.below DW.out HR6.out.lt) (by omega)) (by rw [HRZ.out];rfl) (by rw [HRZ.out];exact Tryz.szR) HRO.out ?_
  intro w9 hB9 hO9
  refine hQ.out _ _ ?_ (fun hH6=>?_)
  · exact⟨hO9.out.blk hH5.1.1 (by have:=HGE.out;omega),hO9.out.blk hH5.1.2 (by have:=H11.out;omega)⟩
  clear hQ K
  try simp only [Act.put,pA9,pZ9,pS9]
  refine tT 7 rfl ?_ ⟨hH6,fun h=>absurd h (by decide)⟩ ?_ ?_
  rotate_left
  · (intro wx hx;obtain⟨_,_⟩:=hx;go_simp <;> with_reducible rfl)
  try simp only [Act.put,pA9,pZ9,pS9]
  refine wpAnyT_done (by kernel_rfl) ?_ _
  have HMF:=Lh (((HM6.out.later DW.out).only hO8.out (by rw [← EG.out];simp) (by have:=HGE.out;omega)).only hO9.out (by rw [← EG.out];simp) (by have:=HGE.out;omega))
  have B09:=B06.out.trans ((DW.out.mono B06.out.size).trans ((hO8.out.below (by have:=E0.out;omega)).trans (hO9.out.below (by have:=E0.out;omega))))
  go_wp2_with fail
  refine bodyPost_ret (res_cct Tryz.results9 rfl rfl rfl (load_blk (hO9.out.blk hB8.out (by omega)) Tryz.underlying34 rfl (by rw [EMZ.out];exact Tryz.szSt)) (load_blk hB9.out Tryz.underlying39 rfl (by rw [HRZ.out];exact Tryz.szR))) rfl ?_
  exact⟨m5,A5,c5,by rw [EMC.out,ERR.out];rfl,HMF.out.inn,HX5.out,B09,fun k hk=>HMF.out.off k (by rw [← EG.out];simp [hk])⟩
end
section
open Go.RowKit OctMath StrMath PlMath
open Go.ChangeShapes Go.WideShapes Go.Deep
def octB (s:ByteArray):List Nat:=s.data.toList.map (·.toNat)
theorem octB_byt (s:ByteArray):Byt (octB s):=by
 intro y hy
 obtain⟨b,_,rfl⟩:=List.mem_map.1 hy
 exact b.toNat_lt
theorem strOf_octB (s:ByteArray):strOf (octB s)=s:=by
 unfold strOf octB
 rw [List.map_map,show (UInt8.ofNat ∘ fun b:UInt8=>b.toNat)=id from by funext b;simp,List.map_id]
theorem octB_len (s:ByteArray):(octB s).length=s.size:=by unfold octB;rw [List.length_map,Array.length_toList];rfl
theorem cons_of {α:Type} {cs:List α} {n:Nat} (h:cs.length=n+1):∃a t,cs=a :: t∧t.length=n:=by
 cases cs with
 | nil=>simp at h
 | cons a t=>exact⟨a,t,rfl,by simpa using h⟩
theorem nil_of {α:Type} {cs:List α} (h:cs.length=0):cs=[]:=List.eq_nil_of_length_eq_zero h
theorem nat_u64 {z:Int} (h:(Lit.int .u64 z).wf=true):∃k:Nat,z=(k:Int)∧k<18446744073709551616:=by
 have:0≤z∧z≤18446744073709551615:=by simpa [Lit.wf,IntKind.min,IntKind.max,IntKind.signed,IntKind.bits] using h
 exact⟨z.toNat,by omega,by omega⟩
theorem nat_u32 {z:Int} (h:(Lit.int .u32 z).wf=true):∃k:Nat,z=(k:Int)∧k<4294967296:=by
 have:0≤z∧z≤4294967295:=by simpa [Lit.wf,IntKind.min,IntKind.max,IntKind.signed,IntKind.bits] using h
 exact⟨z.toNat,by omega,by omega⟩
theorem int_i64 {z:Int} (h:(Lit.int .i64 z).wf=true):I64 z:=by
 simpa [I64,Lit.wf,IntKind.min,IntKind.max,IntKind.signed,IntKind.bits] using h
section
variable {H:Type} {enc:TypeId×Value→H} {w:World} {base:Nat} {sp:Nat→Bool} {held:Bool}
theorem trod_fld {P:Program} {T:TypeId} {fs:Array Field} {fuel:Nat} {cs:List Value} {x:DataW H×List MemPlace} (hu:P.underlying T=some (.struct fs)) (h:DataW.trod enc P w base sp held fuel T cs=some x) :
 cs.length=P.cellsOf T∧∃n,∀ (i o k:Nat) (t:TypeId),(fs[i]?.map fun f=>(f.type,f.offset))=some (t,o)→P.cellsOf t=k→∃y,DataW.trod enc P w base sp held n t ((cs.drop o).take k)=some y:=by
 obtain⟨xs,n,rfl,hx,hlen,hxl,hf⟩:=DataW.trod_struct hu h
 refine⟨hlen,n,fun i o k t hi hc=>?_⟩
 obtain⟨F,hF,e⟩:=Option.map_eq_some_iff.1 hi
 injection e with e1 e2
 have hil:i<xs.length:=by rw [hxl];exact (Array.getElem?_eq_some_iff.1 hF).1
 have h1:=hf i F hF
 rw [e1,e2,hc,List.getElem?_eq_getElem hil] at h1
 exact⟨_,h1⟩
theorem open_row {P:Program} {t e:TypeId} {α:Type} {cells:α→List Value} {ok:α→Prop} {size fuel:Nat} {v:Value} {x:DataW H×List MemPlace} (ht:P.underlying t=some (.slice e)) (hC:P.cellsOf e=size) (hs:0<size)
 (hone:∀n cs y,DataW.trod enc P w base sp held n e cs=some y→∃a,cs=cells a∧ok a) (hl:∀a,(cells a).length=size) (h:DataW.trod enc P w base sp held fuel t [v]=some x) :
 ∃A n cap,∃l:List α,v = .slice A n cap∧Reads w w.heap.size size A n (l.flatMap cells)∧l.length=n∧(∀a ∈ l,ok a)∧n≤cap∧cap≤maxLen:=by
 rcases open_slice ht h with ⟨hcs,hx⟩ | ⟨a,len,cap,m,n,D,Pl,hcs,hb,hle,hm,hmm,hx,hi⟩
 · injection hcs with hcs
   exact⟨none,0,0,[],hcs,(by refine⟨?_,fun h=>absurd h (by omega)⟩;simp),rfl,(fun a h=>(by cases h)),(by omega),(by unfold maxLen;omega)⟩
 · injection hcs with hcs
   have hlm:len≤m:=by rw [hmm];split <;> omega
   have hcell:∀i,i<len→∃y:α,ok y∧∀j,j<size→w.cell? (a.add (i*size+j))=(cells y)[j]?:=by
    intro i hi'
    obtain⟨cs',hc,ht'⟩:=hi i (by omega)
    obtain⟨y,rfl,hy⟩:=hone _ _ _ ht'
    rw [hC] at hc
    obtain⟨_,hlc,hat⟩:=World.cells?_some hc
    refine⟨y,hy,fun j hj=>?_⟩
    have:=hat j hj
    rw [Go.Deep.add_add] at this
    exact this
   obtain⟨l,h1,h2⟩:∃l:List α,l.length=len∧∀i (hi:i<l.length),ok l[i]∧∀j,j<size→w.cell? (a.add (i*size+j))=(cells l[i])[j]?:=by
    clear hx hi h hmm hle hcs hlm
    induction len with
    | zero=>exact⟨[],rfl,fun i hi=>absurd hi (by simp)⟩
    | succ len ih =>
      obtain⟨ns,h1,h2⟩:=ih fun i hi=>hcell i (by omega)
      obtain⟨s,hs⟩:=hcell len (by omega)
      refine⟨ns ++ [s],by simp [h1],fun i hi=>?_⟩
      by_cases hlt:i<ns.length
      · rw [List.getElem_append_left hlt];exact h2 i hlt
      · obtain rfl:i=len:=by simp at hi;omega
        rw [List.getElem_append_right (by omega)]
        simp only [h1,Nat.sub_self,List.getElem_cons_zero]
        exact hs
   have hflat:∀ (l:List α),(l.flatMap cells).length=l.length*size:=by
    intro l
    induction l with
    | nil=>simp
    | cons p l ih=>rw [List.flatMap_cons,List.length_append,ih,hl,List.length_cons,Nat.succ_mul];omega
   have hget:∀ (l:List α) (i:Nat) (hi:i<l.length) (j:Nat),j<size→(l.flatMap cells)[i*size+j]?=(cells l[i])[j]?:=by
    intro l
    induction l with
    | nil=>intro i hi;simp at hi
    | cons p l ih =>
      intro i hi j hj
      rw [List.flatMap_cons]
      cases i with
      | zero=>rw [Nat.zero_mul,Nat.zero_add,List.getElem?_append_left (by rw [hl];exact hj)];rfl
      | succ i =>
        rw [List.getElem?_append_right (by rw [hl,Nat.succ_mul];omega),hl,show (i+1)*size+j - size=i*size+j by rw [Nat.succ_mul];omega]
        exact ih i (by simpa using hi) j hj
   refine⟨some a,len,cap,l,hcs,⟨by rw [hflat,h1],fun hn=>⟨a,rfl,?_,fun j u hu=>?_⟩⟩,h1,fun y hy=>?_,hle,hm⟩
   · have h3:=(h2 0 (by omega)).2 0 hs
     have h4:(cells (l[0]'(by omega)))[0]?=some ((cells (l[0]'(by omega)))[0]'(by rw [hl];exact hs)):=List.getElem?_eq_getElem _
     rw [h4] at h3
     have:=World.block_lt_of_cell? _ _ h3
     rwa [block_of_add] at this
   · have hj:j<l.length*size:=by
      have h3:=(List.getElem?_eq_some_iff.1 hu).1
      rwa [hflat] at h3
     have hd:j / size<l.length:=Nat.div_lt_of_lt_mul (by rw [Nat.mul_comm];exact hj)
     have hm':j % size<size:=Nat.mod_lt _ hs
     have ej:j / size*size+j % size=j:=by rw [Nat.mul_comm];exact Nat.div_add_mod j size
     have h3:=(h2 (j / size) hd).2 (j % size) hm'
     have h4:=hget l (j / size) hd (j % size) hm'
     rw [ej] at h3 h4
     rw [h3,← h4,hu]
   · obtain⟨i,hi,rfl⟩:=List.mem_iff_getElem.1 hy
     exact (h2 i hi).1
theorem open_mem1 {fuel:Nat} {cs:List Value} {x:DataW H×List MemPlace} (h:DataW.trod enc Tryz.prog w base sp held fuel 67 cs=some x):∃y:Int×Int,cs=[iv y.1,iv y.2]∧MemOk y:=by
 obtain⟨fs,hu,hk⟩:∃fs:Array Field,Tryz.prog.underlying 67=some (.struct fs)∧(([0,1]:List Nat).map fun i=>fs[i]?.map fun f=>(f.type,f.offset))=[some (3,0),some (3,1)]:=⟨_,Tryz.underlying67,by kernel_rfl⟩
 simp only [List.map_cons,List.map_nil,List.cons.injEq,and_true] at hk
 obtain⟨k0,k1⟩:=hk
 obtain⟨hlen,n,fld⟩:=trod_fld hu h
 have hl0:cs.length=2:=hlen.trans (by kernel_rfl)
 clear hlen
 clear h
 obtain⟨a0,s0,rfl,hl1⟩:=cons_of hl0
 obtain⟨a1,s1,rfl,hl2⟩:=cons_of hl1
 obtain rfl:=nil_of hl2
 obtain⟨y0,f0⟩:=fld 0 0 1 _ k0 (by kernel_rfl)
 simp only [List.drop_succ_cons,List.drop_zero,List.take_succ_cons,List.take_zero] at f0
 obtain⟨y1,f1⟩:=fld 1 1 1 _ k1 (by kernel_rfl)
 simp only [List.drop_succ_cons,List.drop_zero,List.take_succ_cons,List.take_zero] at f1
 clear fld hl0 hl1 hl2
 obtain⟨z0,e0,-,b0⟩:=DataW.trod_int Tryz.underlying3 f0
 injection e0 with e0
 subst e0
 have b0:=int_i64 b0
 obtain⟨z1,e1,-,b1⟩:=DataW.trod_int Tryz.underlying3 f1
 injection e1 with e1
 subst e1
 have b1:=int_i64 b1
 exact⟨(z0,z1),rfl,b0,b1⟩
theorem open_mems {fuel:Nat} {v:Value} {x:DataW H×List MemPlace} (h:DataW.trod enc Tryz.prog w base sp held fuel 25 [v]=some x) :
 ∃A n cap ms,v = .slice A n cap∧Reads w w.heap.size 2 A n (mcells ms)∧ms.length=n∧(∀y ∈ ms,MemOk y)∧n≤cap∧cap≤maxLen :=
 open_row Tryz.underlying25 (by kernel_rfl) (by decide) (fun n cs y hy=>open_mem1 hy) (fun _=>rfl) h
theorem open_id1 {fuel:Nat} {cs:List Value} {x:DataW H×List MemPlace} (h:DataW.trod enc Tryz.prog w base sp held fuel 46 cs=some x):∃y:IdT,cs=[.int .u64 (y.ver:Int),.int .i64 y.idx,.int .u64 (y.ep:Int)]∧IdOk y:=by
 obtain⟨fs,hu,hk⟩:∃fs:Array Field,Tryz.prog.underlying 46=some (.struct fs)∧(([0,1,2]:List Nat).map fun i=>fs[i]?.map fun f=>(f.type,f.offset))=[some (24,0),some (3,1),some (24,2)]:=⟨_,Tryz.underlying46,by kernel_rfl⟩
 simp only [List.map_cons,List.map_nil,List.cons.injEq,and_true] at hk
 obtain⟨k0,k1,k2⟩:=hk
 obtain⟨hlen,n,fld⟩:=trod_fld hu h
 have hl0:cs.length=3:=hlen.trans (by kernel_rfl)
 clear hlen
 clear h
 obtain⟨a0,s0,rfl,hl1⟩:=cons_of hl0
 obtain⟨a1,s1,rfl,hl2⟩:=cons_of hl1
 obtain⟨a2,s2,rfl,hl3⟩:=cons_of hl2
 obtain rfl:=nil_of hl3
 obtain⟨y0,f0⟩:=fld 0 0 1 _ k0 (by kernel_rfl)
 simp only [List.drop_succ_cons,List.drop_zero,List.take_succ_cons,List.take_zero] at f0
 obtain⟨y1,f1⟩:=fld 1 1 1 _ k1 (by kernel_rfl)
 simp only [List.drop_succ_cons,List.drop_zero,List.take_succ_cons,List.take_zero] at f1
 obtain⟨y2,f2⟩:=fld 2 2 1 _ k2 (by kernel_rfl)
 simp only [List.drop_succ_cons,List.drop_zero,List.take_succ_cons,List.take_zero] at f2
 clear fld hl0 hl1 hl2 hl3
 obtain⟨z0,e0,-,b0⟩:=DataW.trod_int Tryz.underlying24 f0
 injection e0 with e0
 subst e0
 obtain⟨z0,rfl,c0⟩:=nat_u64 b0
 obtain⟨z1,e1,-,b1⟩:=DataW.trod_int Tryz.underlying3 f1
 injection e1 with e1
 subst e1
 have b1:=int_i64 b1
 obtain⟨z2,e2,-,b2⟩:=DataW.trod_int Tryz.underlying24 f2
 injection e2 with e2
 subst e2
 obtain⟨z2,rfl,c2⟩:=nat_u64 b2
 exact⟨⟨z0,z1,z2⟩,rfl,c0,b1,c2⟩
theorem open_map1 {fuel:Nat} {cs:List Value} {x:DataW H×List MemPlace} (h:DataW.trod enc Tryz.prog w base sp held fuel 27 cs=some x):∃ (ep:Nat) (A:Option Addr) (n cap:Nat) (ms:List (Int×Int)),cs=[.int .u64 (ep:Int),.slice A n cap]∧ep<18446744073709551616∧Reads w w.heap.size 2 A n (mcells ms)∧ms.length=n∧(∀y ∈ ms,MemOk y)∧n≤cap∧cap≤maxLen:=by
 obtain⟨fs,hu,hk⟩:∃fs:Array Field,Tryz.prog.underlying 27=some (.struct fs)∧(([0,1]:List Nat).map fun i=>fs[i]?.map fun f=>(f.type,f.offset))=[some (24,0),some (25,1)]:=⟨_,Tryz.underlying27,by kernel_rfl⟩
 simp only [List.map_cons,List.map_nil,List.cons.injEq,and_true] at hk
 obtain⟨k0,k1⟩:=hk
 obtain⟨hlen,n,fld⟩:=trod_fld hu h
 have hl0:cs.length=2:=hlen.trans (by kernel_rfl)
 clear hlen
 clear h
 obtain⟨a0,s0,rfl,hl1⟩:=cons_of hl0
 obtain⟨a1,s1,rfl,hl2⟩:=cons_of hl1
 obtain rfl:=nil_of hl2
 obtain⟨y0,f0⟩:=fld 0 0 1 _ k0 (by kernel_rfl)
 simp only [List.drop_succ_cons,List.drop_zero,List.take_succ_cons,List.take_zero] at f0
 obtain⟨y1,f1⟩:=fld 1 1 1 _ k1 (by kernel_rfl)
 simp only [List.drop_succ_cons,List.drop_zero,List.take_succ_cons,List.take_zero] at f1
 clear fld hl0 hl1 hl2
 obtain⟨z0,e0,-,b0⟩:=DataW.trod_int Tryz.underlying24 f0
 injection e0 with e0
 subst e0
 obtain⟨z0,rfl,c0⟩:=nat_u64 b0
 obtain⟨A,k,cap,ms,e1,hr,hl,hm,hc,hx⟩:=open_mems f1
 subst e1
 exact⟨z0,A,k,cap,ms,rfl,c0,hr,hl,hm,hc,hx⟩
structure CM where
 x:CmdT
 A:Option Addr
 c:Nat
def cmL (m:CM):List Value:=(cmdCs m.x m.A m.c).toList
structure CmdN (c:CmdT):Prop where
 key:Byt c.key
 keyL:c.key.length≤maxLen
 m64:M64 c.mem
 ver:c.version<18446744073709551616
 cl:c.client<18446744073709551616
 sq:c.seq<18446744073709551616
 sm:c.sum<4294967296
structure CmW (w:World) (m:CM):Prop where
 row:(⟨2,m.A,m.c,m.x.mem.length,mcells m.x.mem⟩:RowT).In w
 ok:CmdN m.x
theorem CmW.later {w w':World} {m:CM} (h:CmW w m) (hb:Below w.heap.size w w'):CmW w' m:=⟨h.row.later hb,h.ok⟩
theorem open_cmd1 {fuel:Nat} {cs:List Value} {x:DataW H×List MemPlace} (h:DataW.trod enc Tryz.prog w base sp held fuel 48 cs=some x):∃y:CM,cs=cmL y∧CmW w y:=by
 obtain⟨fs,hu,hk⟩:∃fs:Array Field,Tryz.prog.underlying 48=some (.struct fs)∧(([0,1,2,3,4,5,6,7,8,9,10,11,12]:List Nat).map fun i=>fs[i]?.map fun f=>(f.type,f.offset))=[some (43,0),some (24,1),some (24,2),some (9,3),some (3,4),some (44,5),some (24,6),some (24,7),some (3,8),some (3,9),some (4,10),some (46,11),some (27,14)]:=⟨_,Tryz.underlying48,by kernel_rfl⟩
 simp only [List.map_cons,List.map_nil,List.cons.injEq,and_true] at hk
 obtain⟨k0,k1,k2,k3,k4,k5,k6,k7,k8,k9,k10,k11,k12⟩:=hk
 obtain⟨hlen,n,fld⟩:=trod_fld hu h
 have hl0:cs.length=16:=hlen.trans (by kernel_rfl)
 clear hlen
 clear h
 obtain⟨a0,s0,rfl,hl1⟩:=cons_of hl0
 obtain⟨a1,s1,rfl,hl2⟩:=cons_of hl1
 obtain⟨a2,s2,rfl,hl3⟩:=cons_of hl2
 obtain⟨a3,s3,rfl,hl4⟩:=cons_of hl3
 obtain⟨a4,s4,rfl,hl5⟩:=cons_of hl4
 obtain⟨a5,s5,rfl,hl6⟩:=cons_of hl5
 obtain⟨a6,s6,rfl,hl7⟩:=cons_of hl6
 obtain⟨a7,s7,rfl,hl8⟩:=cons_of hl7
 obtain⟨a8,s8,rfl,hl9⟩:=cons_of hl8
 obtain⟨a9,s9,rfl,hl10⟩:=cons_of hl9
 obtain⟨a10,s10,rfl,hl11⟩:=cons_of hl10
 obtain⟨a11,s11,rfl,hl12⟩:=cons_of hl11
 obtain⟨a12,s12,rfl,hl13⟩:=cons_of hl12
 obtain⟨a13,s13,rfl,hl14⟩:=cons_of hl13
 obtain⟨a14,s14,rfl,hl15⟩:=cons_of hl14
 obtain⟨a15,s15,rfl,hl16⟩:=cons_of hl15
 obtain rfl:=nil_of hl16
 obtain⟨y0,f0⟩:=fld 0 0 1 _ k0 (by kernel_rfl)
 simp only [List.drop_succ_cons,List.drop_zero,List.take_succ_cons,List.take_zero] at f0
 obtain⟨y1,f1⟩:=fld 1 1 1 _ k1 (by kernel_rfl)
 simp only [List.drop_succ_cons,List.drop_zero,List.take_succ_cons,List.take_zero] at f1
 obtain⟨y2,f2⟩:=fld 2 2 1 _ k2 (by kernel_rfl)
 simp only [List.drop_succ_cons,List.drop_zero,List.take_succ_cons,List.take_zero] at f2
 obtain⟨y3,f3⟩:=fld 3 3 1 _ k3 (by kernel_rfl)
 simp only [List.drop_succ_cons,List.drop_zero,List.take_succ_cons,List.take_zero] at f3
 obtain⟨y4,f4⟩:=fld 4 4 1 _ k4 (by kernel_rfl)
 simp only [List.drop_succ_cons,List.drop_zero,List.take_succ_cons,List.take_zero] at f4
 obtain⟨y5,f5⟩:=fld 5 5 1 _ k5 (by kernel_rfl)
 simp only [List.drop_succ_cons,List.drop_zero,List.take_succ_cons,List.take_zero] at f5
 obtain⟨y6,f6⟩:=fld 6 6 1 _ k6 (by kernel_rfl)
 simp only [List.drop_succ_cons,List.drop_zero,List.take_succ_cons,List.take_zero] at f6
 obtain⟨y7,f7⟩:=fld 7 7 1 _ k7 (by kernel_rfl)
 simp only [List.drop_succ_cons,List.drop_zero,List.take_succ_cons,List.take_zero] at f7
 obtain⟨y8,f8⟩:=fld 8 8 1 _ k8 (by kernel_rfl)
 simp only [List.drop_succ_cons,List.drop_zero,List.take_succ_cons,List.take_zero] at f8
 obtain⟨y9,f9⟩:=fld 9 9 1 _ k9 (by kernel_rfl)
 simp only [List.drop_succ_cons,List.drop_zero,List.take_succ_cons,List.take_zero] at f9
 obtain⟨y10,f10⟩:=fld 10 10 1 _ k10 (by kernel_rfl)
 simp only [List.drop_succ_cons,List.drop_zero,List.take_succ_cons,List.take_zero] at f10
 obtain⟨y11,f11⟩:=fld 11 11 3 _ k11 (by kernel_rfl)
 simp only [List.drop_succ_cons,List.drop_zero,List.take_succ_cons,List.take_zero] at f11
 obtain⟨y12,f12⟩:=fld 12 14 2 _ k12 (by kernel_rfl)
 simp only [List.drop_succ_cons,List.drop_zero,List.take_succ_cons,List.take_zero] at f12
 clear fld hl0 hl1 hl2 hl3 hl4 hl5 hl6 hl7 hl8 hl9 hl10 hl11 hl12 hl13 hl14 hl15 hl16
 obtain⟨z0,e0,-,b0⟩:=DataW.trod_int Tryz.underlying43 f0
 injection e0 with e0
 subst e0
 have b0:=int_i64 b0
 obtain⟨z1,e1,-,b1⟩:=DataW.trod_int Tryz.underlying24 f1
 injection e1 with e1
 subst e1
 obtain⟨z1,rfl,c1⟩:=nat_u64 b1
 obtain⟨z2,e2,-,b2⟩:=DataW.trod_int Tryz.underlying24 f2
 injection e2 with e2
 subst e2
 obtain⟨z2,rfl,c2⟩:=nat_u64 b2
 obtain⟨z3,e3,-,sz3⟩:=DataW.trod_string Tryz.underlying9 f3
 injection e3 with e3
 subst e3
 obtain⟨z4,e4,-,b4⟩:=DataW.trod_int Tryz.underlying3 f4
 injection e4 with e4
 subst e4
 have b4:=int_i64 b4
 obtain⟨z5,e5,-,b5⟩:=DataW.trod_int Tryz.underlying44 f5
 injection e5 with e5
 subst e5
 obtain⟨z5,rfl,c5⟩:=nat_u32 b5
 obtain⟨z6,e6,-,b6⟩:=DataW.trod_int Tryz.underlying24 f6
 injection e6 with e6
 subst e6
 obtain⟨z6,rfl,c6⟩:=nat_u64 b6
 obtain⟨z7,e7,-,b7⟩:=DataW.trod_int Tryz.underlying24 f7
 injection e7 with e7
 subst e7
 obtain⟨z7,rfl,c7⟩:=nat_u64 b7
 obtain⟨z8,e8,-,b8⟩:=DataW.trod_int Tryz.underlying3 f8
 injection e8 with e8
 subst e8
 have b8:=int_i64 b8
 obtain⟨z9,e9,-,b9⟩:=DataW.trod_int Tryz.underlying3 f9
 injection e9 with e9
 subst e9
 have b9:=int_i64 b9
 obtain⟨z10,e10,-⟩:=DataW.trod_bool Tryz.underlying4 f10
 injection e10 with e10
 subst e10
 obtain⟨id,e11,b11⟩:=open_id1 f11
 injection e11 with q0 e11
 injection e11 with q1 e11
 injection e11 with q2 e11
 subst q0 q1 q2
 obtain⟨ep,A,k,cap,ms,e12,b12,hr,hl,hm,hc,hx⟩:=open_map1 f12
 injection e12 with p0 e12
 injection e12 with p1 e12
 subst p0 p1
 exact⟨⟨⟨z0,z1,z2,octB z3,z4,z5,z6,z7,z8,z9,z10,id,ep,ms⟩,A,cap⟩,by unfold cmL cmdCs;simp only [strOf_octB,hl],⟨by show Reads _ _ _ _ _ _;rw [hl];exact hr,by show _≤_;rw [hl];exact hc,hx⟩,octB_byt z3,by rw [octB_len];exact sz3,fun y hy=>hm y hy,c6,c1,c2,c5⟩
theorem open_cms {fuel:Nat} {v:Value} {x:DataW H×List MemPlace} (h:DataW.trod enc Tryz.prog w base sp held fuel 22 [v]=some x) :
 ∃A n cap,∃l:List CM,v = .slice A n cap∧Reads w w.heap.size 16 A n (l.flatMap cmL)∧l.length=n∧(∀m ∈ l,CmW w m)∧n≤cap∧cap≤maxLen :=
 open_row Tryz.underlying22 (by kernel_rfl) (by decide) (fun n cs y hy=>open_cmd1 hy) (fun _=>rfl) h
end
end
section
open Go.RowKit OctMath StrMath PlMath
theorem m64_chk {ms:List (Int×Int)} (h:chk ms=true):M64 ms:=fun x hx=>by
 have:=(chk_up h).1.2 x hx
 omega
theorem mst_of {m:MM} (h:MayM plF m.x):MSt m:=by
 have h1:=h.map
 have h2:=h.next
 have e1:plF.okM m.x.n m.x.map=(chk m.x.mem && decide (m.x.n≤(wts m.x.mem:Int))):=rfl
 have e2:plF.okM m.x.n m.x.next=(chk m.x.nem && decide (m.x.n≤(wts m.x.nem:Int))):=rfl
 rw [e1,Bool.and_eq_true] at h1
 rw [e2,Bool.and_eq_true] at h2
 exact⟨h,m64_chk h1.1,m64_chk h2.1⟩
theorem nodup_nat {l:List Nat} (h:l.Nodup) {b:Nat} (hb:∀x ∈ l,x≤b):l.length≤b+1:=by
 have:=nodup_le h (k:=List.range (b+1)) (fun x hx=>List.mem_range.2 (by have:=hb x hx;omega))
 simpa using this
theorem nodup_int {l:List Int} (h:l.Nodup) {b:Nat} (hb:∀x ∈ l,0≤x∧x≤b):l.length≤b+1:=by
 have h1:=nodup_map (f:=Int.toNat) h (fun x hx y hy e=>by have:=hb x hx;have:=hb y hy;omega)
 have:=nodup_nat h1 (b:=b) (fun x hx=>by
  obtain⟨y,hy,rfl⟩:=List.mem_map.1 hx
  have:=hb y hy
  omega)
 simpa using this
theorem siz_of {m:MetT} (h:MayM plF m) (hl:m.last≤100000) (hc:cntM m≤1000000):Siz m:=by
 have hv:(m.objs.map (·.version) ++ m.ints.map verI).length≤100000+1:=nodup_nat h.vers (fun x hx=>by
  rcases List.mem_append.1 hx with hx | hx
  · obtain⟨o,ho,rfl⟩:=List.mem_map.1 hx
    exact Nat.le_trans (h.fitO o ho).last hl
  · obtain⟨o,ho,rfl⟩:=List.mem_map.1 hx
    exact Nat.le_trans (h.fitI o ho).last hl)
 rw [List.length_append,List.length_map,List.length_map] at hv
 have hs:=nodup_nat h.sess.nodupK (b:=64) (fun x hx=>by
  obtain⟨o,ho,rfl⟩:=List.mem_map.1 hx
  exact (h.sesR o ho).2.1)
 rw [List.length_map] at hs
 have hd:=nodup_int h.down.nodup (b:=32) (fun x hx=>by have:=h.downR x hx;omega)
 have hw:(m.wass.length:Int)≤1000000:=by
  unfold cntM at hc
  have h1:0≤m.n*((m.objs.length:Int)+m.ints.length):=Int.mul_nonneg (by have:=h.k;omega) (by omega)
  omega
 have hg:=h.cutL
 have hg2:=h.gs
 exact⟨by omega,by omega,by omega,by omega,by omega,by omega⟩
structure RunS (m:MetT) (i:Nat):Prop where
 inv:Inv plF m
 last:m.last≤i
 n:m.n≤3
 cnt:cntM m≤3*(i:Int)
theorem RunS.may {m:MetT} {i:Nat} (h:RunS m i):MayM plF m:=h.inv.good.may
theorem RunS.siz {m:MetT} {i:Nat} (h:RunS m i) (hi:i≤100000):Siz m:=siz_of h.may (Nat.le_trans h.last hi) (by have:=h.cnt;omega)
theorem RunS.apply {m:MetT} {i:Nat} (h:RunS m i) (hi:i≤100000) (c:CmdT):RunS (applyM plF m (i+1) c).1 (i+1):=by
 obtain⟨h1,h2,h3⟩:=apply_inv h.inv (ix:=i+1) (by have:=h.last;omega) (by omega) c
 have hn:(applyM plF m (i+1) c).1.n=m.n:=h2.n
 have hp:=h.may.k
 refine⟨h1,by rw [h2.last];exact Nat.le_refl _,by rw [hn];exact h.n,?_⟩
 have hc:=h2.cnt
 rw [h3] at hc
 have hg:givenM { m with last:=i+1 } c (applyM plF m (i+1) c).2≤3:=by
  have:=h.n
  unfold givenM
  show (if _ then m.n else 0)+(if _ then m.n else 0)≤3
  split
  · rename_i h1
    rw [if_neg (fun h2=>by have:=h1.1;have:=h2.1;omega)]
    omega
  · split <;> omega
 have hg2:0≤goneN c (applyM plF m (i+1) c).2:=by unfold goneN;split <;> omega
 have h9:=h.cnt
 omega
def newM (k n gs:Int) (ms:List (Int×Int)):MetT:=⟨k,n,gs,1,ms,1,ms,[],[],[],[],[],[],0⟩
theorem new_may {k n gs:Int} {ms:List (Int×Int)} (h1:1≤k∧k≤n∧n≤32) (h2:1≤gs∧gs≤64) (h3:chk ms=true) (h4:n≤(wts ms:Int)):MayM plF (newM k n gs ms):=by
 have ho:plF.okM n (1,ms)=true:=by show (chk ms && decide (n≤(wts ms:Int)))=true;rw [h3,decide_eq_true h4];rfl
 exact⟨h1,h2,ho,ho,List.Pairwise.nil,(fun g h=>by cases h),by show ((0:Nat):Int)<gs;omega,by rw [if_pos (show (newM k n gs ms).nep=(newM k n gs ms).mep from rfl)];exact⟨rfl,rfl⟩,List.Pairwise.nil,List.Pairwise.nil,List.Pairwise.nil,List.Pairwise.nil,List.Pairwise.nil,(fun g h=>by cases h),
  List.Pairwise.nil,(fun g h=>by cases h),(fun g h=>by cases h),(fun g h=>by cases h),(fun g h=>by cases h),rfl⟩
theorem new_run {k n gs:Int} {ms:List (Int×Int)} (h1:1≤k∧k≤n∧n≤3) (h2:1≤gs∧gs≤64) (h3:chk ms=true) (h4:n≤(wts ms:Int)):RunS (newM k n gs ms) 0:=by
 refine⟨⟨Good.of (new_may (by omega) h2 h3 h4),⟨⟨(fun o h=>by cases h),(fun o h=>by cases h)⟩,⟨Nat.le_refl _,Nat.le_refl _⟩,(fun o h=>by cases h),(fun o h=>by cases h),(fun o h=>by cases h),(fun o h=>by cases h),(fun o h=>by cases h)⟩⟩,Nat.le_refl _,h1.2.2,?_⟩
 show n*(((0:Nat):Int)+((0:Nat):Int))+((0:Nat):Int)≤3*((0:Nat):Int)
 simp
end
section
open Go.RowKit OctMath StrMath PlMath
def newMM (k n gs:Int) (ms:List (Int×Int)) (A:Option Addr) (c:Nat):MM:=⟨newM k n gs ms,A,c,A,c,none,0,none,0,none,0,none,0,none,0,none,0,[],[]⟩
theorem newMM_in {k n gs:Int} {ms:List (Int×Int)} {A:Option Addr} {c:Nat} {w:World} (h:(⟨2,A,c,ms.length,mcells ms⟩:RowT).In w):MIn (newMM k n gs ms A c) w:=by
 have hz:∀K,(⟨K,none,0,0,[]⟩:RowT).In w:=fun K=>⟨by refine⟨?_,fun h=>absurd h (by show ¬0<0;omega)⟩;show (0:Nat)=0*K;omega,Nat.le_refl _,by show (0:Nat)≤maxLen;unfold maxLen;omega⟩
 exact⟨MM.All.mk' h h (hz 1) (hz 7) (hz 9) (hz 5) (hz 4) (hz 1) (fun o k=>by cases k) (fun o k=>by cases k),rfl,rfl,⟨(fun y k=>by cases k),(fun y k=>by cases k),Nat.zero_le _,Nat.zero_le _,Nat.zero_le _,Nat.zero_le _,Nat.zero_le _,Nat.zero_le _⟩⟩
theorem build_new (k n gs:Int) (A:Option Addr) (l c:Nat) (w:World):(Instr.build 34 #[(0,.int .i64 k),(1,.int .i64 n),(2,.int .i64 gs),(3,.agg #[.int .u64 1,.slice A l c]),(4,.agg #[.int .u64 1,.slice A l c])]).run Tryz.prog w = .ok (.agg #[.int .i64 k,.int .i64 n,.int .i64 gs,.int .u64 1,.slice A l c,.int .u64 1,.slice A l c,.slice none 0 0,.slice none 0 0,.slice none 0 0,.slice none 0 0,.slice none 0 0,.slice none 0 0,.int .u64 0]) w:=run_build w 34 _ _ (by kernel_rfl)
theorem new_any (k n gs:Int) (ms:List (Int×Int)) (A:Option Addr) (c:Nat) (w:World) (hr:Hid ((⟨2,A,c,ms.length,mcells ms⟩:RowT).In w)) (hm:Hid (MayM plF (newM k n gs ms))) :
 Calls Tryz.prog 13 #[.int .i64 k,.int .i64 n,.int .i64 gs,.agg #[.int .u64 1,.slice A ms.length c]] w fun e w'=>e = .returned (.tuple #[.agg (newMM k n gs ms A c).cs,.int .i64 0])∧Below w.heap.size w w':=by
 have HMY:=Lh (fun W (h:Below w.heap.size w W)=>may_true (newMM k n gs ms A c) W (Lh (newMM_in (hr.out.later h))) (Lh (mst_of hm.out)) (by show (0:Nat)<_;omega))
 have HBD:=Lh (fun W=>build_new k n gs A ms.length c W)
 obtain⟨l,el⟩:∃l,ms.length=l:=⟨_,rfl⟩
 have ecs:#[.int .i64 k,.int .i64 n,.int .i64 gs,.int .u64 1,.slice A l c,.int .u64 1,.slice A l c,.slice none 0 0,.slice none 0 0,.slice none 0 0,.slice none 0 0,.slice none 0 0,.slice none 0 0,.int .u64 0]=(newMM k n gs ms A c).cs:=by rw [← el];rfl
 rw [el] at HBD
 rw [ecs] at HBD
 rw [el]
 clear el ecs
 obtain⟨cs,ecs⟩:∃cs,(newMM k n gs ms A c).cs=cs:=⟨_,rfl⟩
 have HCS:=Lh (show cs.size=14 from by rw [← ecs];rfl)
 have HCO:=Lh (show cs.toList.all (·.oneCell')=true from by rw [← ecs];rfl)
 rw [ecs] at HBD HMY
 rw [ecs]
 clear ecs
 go_enter Tryz.func13,Tryz.ntmps13
 go_upto_region 1 with (fail)
 have h1:=(Blk.new w 27 #[.int .u64 1,.slice A l c]).alloc (.cells mZ 34)
 have h2:=Blk.new (w.alloc (.cells #[.int .u64 1,.slice A l c] 27)) 34 mZ
 rw [show (w.alloc (.cells #[.int .u64 1,.slice A l c] 27)).heap.size=w.heap.size+1 from by simp] at h2
 have hb0:Below w.heap.size w ((w.alloc (.cells #[.int .u64 1,.slice A l c] 27)).alloc (.cells mZ 34)):=((Below.refl _ _).alloc (Nat.le_refl _) _).alloc (by simp) _
 have eM:(.cells #[.int .i64 0,.int .i64 0,.int .i64 0,.int .u64 0,.slice none 0 0,.int .u64 0,.slice none 0 0,.slice none 0 0,.slice none 0 0,.slice none 0 0,.slice none 0 0,.slice none 0 0,.slice none 0 0,.int .u64 0] 34:Obj) = .cells mZ 34:=rfl
 rw [eM]
 obtain⟨w1,ew1⟩:∃w1,(w.alloc (.cells #[.int .u64 1,.slice A l c] 27)).alloc (.cells mZ 34)=w1:=⟨_,rfl⟩
 rw [ew1] at h1 h2 hb0 ⊢
 have HB:=Lh h1
 have HZ:=Lh h2
 have HB0:=Lh hb0
 clear ew1 h1 h2 hb0 eM
 obtain⟨b0,e0⟩:∃b0,w.heap.size=b0:=⟨_,rfl⟩
 have E0:=Lh e0
 rw [e0] at HB HZ ⊢
 clear e0
 go_upto_region 2 with (first
  | (refine wpl_load_blk rfl 27 (.tmp 7) rfl b0 27 #[.int .u64 1,.slice A l c] _ rfl HB.out Tryz.underlying27 rfl Tryz.szMp ?_)
  | (refine wpl_build_run rfl 34 #[(0,.tmp 11),(1,.tmp 12),(2,.tmp 13),(3,.tmp 14),(4,.tmp 15)] rfl _ (.agg cs) (by simp only [List.map_toArray,List.map_cons,List.map_nil];rfl) (HBD.out _) ?_)
  | (refine wpl_store_blk rfl 34 (.tmp 10) (.tmp 16) rfl w1.heap.size 34 mZ cs rfl rfl (Blk.new w1 _ _) (by rw [HCS.out];rfl) (by rw [HCS.out];exact Tryz.szSt) HCO.out ?_;intro w2 hB2 hO2))
 have HB2:=Lh (show Below w1.heap.size w1 w2 from ((Below.refl _ _).alloc (Nat.le_refl _) _).trans (hO2.out.below (Nat.le_refl _)))
 have HT2:=hB2
 have HZ2:=Lh (HZ.out.below HB2.out HZ.out.lt)
 obtain⟨b10,e10⟩:∃b10,w1.heap.size=b10:=⟨_,rfl⟩
 rw [e10] at HT2 ⊢
 clear e10 hB2 hO2 HB HZ HBD
 go_wp2_with (first
  | (refine wpl_load_blk rfl 34 (.tmp 10) rfl b10 34 cs _ rfl (by first | exact HT2.out | exact HT3.out) Tryz.underlying34 rfl (by rw [HCS.out];exact Tryz.szSt) ?_)
  | (go_at_call 17;refine (HMY.out w2 (HB0.out.trans (HB2.out.mono HB0.out.size))).mono ?_;rintro e w3 ⟨rfl,hb3⟩;have HB3:=Lh hb3;have HT3:=Lh (HT2.out.below hb3 HT2.out.lt);have HZ3:=Lh (HZ2.out.below hb3 HZ2.out.lt);clear hb3)
  | (refine wpl_store_blk rfl 34 (.tmp 8) (.tmp 21) rfl (b0+1) 34 mZ cs rfl rfl HZ3.out (by rw [HCS.out];rfl) (by rw [HCS.out];exact Tryz.szSt) HCO.out ?_;intro w4 hB4 hO4))
 refine bodyPost_ret (res_ct Tryz.results13 rfl rfl (load_blk hB4.out Tryz.underlying34 rfl (by rw [HCS.out];exact Tryz.szSt))) rfl ⟨rfl,?_⟩
 have h1:Below w1.heap.size w1 w3:=HB2.out.trans (HB3.out.mono HB2.out.size)
 exact (HB0.out.trans (h1.mono HB0.out.size)).trans (hO4.out.below (by have:=E0.out;omega))
end
end Go.Proofs.YtdoneomahlfkbaaGreat
