/- THE MACHINE: intents that are aborted, intents that are committed. (printed by gen_meh6.py); THE MACHINE: a session is asked. (printed by gen_meh7.py) -/
import Derived.Test.YtdoneomahlfkbaaGreatOnc11
set_option linter.unusedVariables false
set_option linter.unusedSimpArgs false
set_option maxRecDepth 100000
set_option maxHeartbeats 8000000
namespace Go.Proofs.YtdoneomahlfkbaaGreat
section
open Go.RowKit OctMath
theorem Tryz.szIt:(Tryz.prog.info? 60).map (·.size)=some 9:=by kernel_rfl
theorem int_mem {m:MM} {w:World} (h:MIn m w) {i:IM} (hi:i ∈ m.is):i.x ∈ m.x.ints:=by rw [← h.is];exact List.mem_map.2 ⟨i,hi,rfl⟩
theorem obj_mem {m:MM} {w:World} (h:MIn m w) {i:OM} (hi:i ∈ m.os):i.x ∈ m.x.objs:=by rw [← h.os];exact List.mem_map.2 ⟨i,hi,rfl⟩
theorem ver_of {m:MetT} {v:Nat} {x:IntT} (hR:Ris natO verI m.ints) (h:findR natO verI v m.ints=some x):x.obj.version=v:=((find_some hR).1 h).2
theorem waste_le (ws:List WasT) (o:ObjT):(wasteF ws o).length≤ws.length+o.nodes.length:=by
 rw [← wsk_all]
 exact wsk_len _ _
theorem away_facts {m:MetT} (h:Ris bytO ObjT.key m.objs) (key:List Nat):Ris bytO ObjT.key (awayM m key).1.objs∧(awayM m key).1.objs.length≤m.objs.length∧(awayM m key).1.sess=m.sess:=by
 unfold awayM
 split
 · exact⟨ris_drop h,drop_le,rfl⟩
 · exact⟨h,Nat.le_refl _,rfl⟩
theorem yields_obj {P:Program} {ops:Array Oper} {S:World→Prop} {op:Oper} {a:Act} (hw:Region.wanted op (yielded ops a.tmps)=true) (ty:TypeId) (x:Operand) (ho:op.op = .load ty x)
 (p:Addr) (o:OM) (d:TypeDesc) (hx:a.eval x = .pointer (some p)) (hS:∀w,S w→∀j v,(omCs o)[j]?=some v→w.cell? (p.add j)=some v) (hu:P.underlying ty=some d) (hd:d.isRow=true) (hi:(P.info? ty).map (·.size)=some 7) :
 YieldsIf P ops S op (.agg (oA o)) a:=yields_load_at hw ty x ho p (omCs o) d hx hS hu hd hi
theorem abort_any (G:List Nat) (g:Nat) (m:MM) (c:CmdT) (CA:Option Addr) (cc:Nat) (w:World) (hM:Hid (MS G g m w)) (hRW:Hid (Ris wasO (fun x=>x) m.x.wass)) (hRI:Hid (Ris natO verI m.x.ints)) (hRS:Hid (Ris natO SesT.client m.x.sess)) (hnd:Hid (∀x ∈ m.x.ints,x.obj.nodes.length≤255)) (hl:m.x.wass.length+255≤33554432) (hls:m.x.sess.length+1≤16777216) :
 Calls Tryz.prog 22 #[.pointer (some ⟨g,0,none⟩),.agg (cmdCs c CA cc)] w (RetRes G g (abortM m.x c) w):=by
 obtain⟨cs,ecs⟩:∃cs,cmdCs c CA cc=cs:=⟨_,rfl⟩
 have V0:=Lh (show cs[0]?=some (.int .i64 c.kind) from by rw [← ecs];rfl)
 have V1:=Lh (show cs[1]?=some (.int .u64 (c.client:Int)) from by rw [← ecs];rfl)
 have V2:=Lh (show cs[2]?=some (.int .u64 (c.seq:Int)) from by rw [← ecs];rfl)
 have V3:=Lh (show cs[3]?=some (.string (strOf c.key)) from by rw [← ecs];rfl)
 have V4:=Lh (show cs[4]?=some (.int .i64 c.size) from by rw [← ecs];rfl)
 have V5:=Lh (show cs[5]?=some (.int .u32 (c.sum:Int)) from by rw [← ecs];rfl)
 have V6:=Lh (show cs[6]?=some (.int .u64 (c.version:Int)) from by rw [← ecs];rfl)
 have V7:=Lh (show cs[7]?=some (.int .u64 (c.epoch:Int)) from by rw [← ecs];rfl)
 have V8:=Lh (show cs[8]?=some (.int .i64 c.group) from by rw [← ecs];rfl)
 have V9:=Lh (show cs[9]?=some (.int .i64 c.node) from by rw [← ecs];rfl)
 have V10:=Lh (show cs[10]?=some (.bool c.up) from by rw [← ecs];rfl)
 have V11:=Lh (show cs[11]?=some (.int .u64 (c.id.ver:Int)) from by rw [← ecs];rfl)
 have V12:=Lh (show cs[12]?=some (.int .i64 c.id.idx) from by rw [← ecs];rfl)
 have V13:=Lh (show cs[13]?=some (.int .u64 (c.id.ep:Int)) from by rw [← ecs];rfl)
 have V14:=Lh (show cs[14]?=some (.int .u64 (c.mep:Int)) from by rw [← ecs];rfl)
 have V15:=Lh (show cs[15]?=some (.slice CA c.mem.length cc) from by rw [← ecs];rfl)
 have HCS:=Lh (show cs.size=16 from by rw [← ecs];rfl)
 have HCO:=Lh (show cs.toList.all (·.oneCell')=true from by rw [← ecs];rfl)
 rw [ecs]
 have ECS:=Lh ecs
 clear ecs
 have HGL:=Lh hM.out.blk.lt
 go_enter Tryz.func22,Tryz.ntmps22
 go_upto_region 1 with (fail)
 obtain⟨w1,ew1⟩:∃w1,(w.alloc (.cells cs 48)).alloc (.cells rZ 39)=w1:=⟨_,rfl⟩
 have hb0:Below w.heap.size w ((w.alloc (.cells cs 48)).alloc (.cells rZ 39)):=((Below.refl _ _).alloc (Nat.le_refl _) _).alloc (by simp) _
 have hB:=(Blk.new w 48 cs).alloc (.cells rZ 39)
 have hR:=Blk.new (w.alloc (.cells cs 48)) 39 rZ
 have hs1:(w.alloc (.cells cs 48)).heap.size=w.heap.size+1:=by simp
 rw [hs1] at hR
 rw [ew1] at hb0 hB hR
 have ew1':(w.alloc (.cells cs 48)).alloc (.cells #[.int .i64 0,.int .u64 0,.slice none 0 0,.int .u64 0] 39)=w1:=ew1
 rw [ew1']
 have HB0:=Lh hb0
 have HB:=Lh hB
 have HRB:=Lh hR
 have HM1:=Lh (hM.out.add hb0 (k:=w.heap.size+1) (by omega) hR.lt)
 have HGG:=Lh hM.out.mem
 clear hb0 hB hR hs1 ew1 ew1' hM
 obtain⟨b0,e0⟩:∃b0,w.heap.size=b0:=⟨_,rfl⟩
 have E0:=Lh e0
 rw [e0] at HB HRB HGL HM1 ⊢
 clear e0
 obtain⟨GG,eGG⟩:∃GG,(b0+1) :: G=GG:=⟨_,rfl⟩
 have EGG:=Lh eGG
 rw [eGG] at HM1
 clear eGG
 have c6:w1.cell? ⟨b0,6,none⟩=some (.int .u64 (c.version:Int)):=(HB.out.cell 6).trans V6.out
 go_wp2_with fail
 refine (intent_any GG g m c.version _ HM1 hRI).mono ?_
 rintro e w2 ⟨hb,⟨hf,rfl⟩ | ⟨i,hi,hf,rfl⟩⟩
 · clear c6
   have HF:=Lh hf
   have HB2:=Lh hb
   clear hf hb
   go_wp2_with (first
    | (refine wpl_store_blk rfl 60 (.tmp 5) (.tmp 12) rfl w2.heap.size 60 iZ iZ rfl rfl (Blk.new w2 _ _) rfl Tryz.szIt rfl ?_;intro w4 hB4 hO4;have HB4:=Lh (show Below w1.heap.size w1 w4 from HB2.out.trans (((Below.refl w2.heap.size w2).alloc (Nat.le_refl _) _ |>.trans (hO4.out.below (Nat.le_refl _))).mono HB2.out.size));have HR4:=Lh (HRB.out.below HB4.out HRB.out.lt);clear hB4 hO4)
    | (go_at_call 19;refine (when_any _ _).mono ?_;rintro e w10 ⟨rfl,hb10⟩;have HB10:=Lh hb10;have HR10:=Lh (HR4.out.below hb10 HR4.out.lt);clear hb10)
    | (refine wpl_store_blk rfl 39 (.tmp 4) _ rfl (b0+1) 39 rZ _ rfl rfl HR10.out rfl Tryz.szR rfl ?_;intro w11 hB11 hO11))
   have HB5:=Lh (HB4.out.trans (HB10.out.mono HB4.out.size))
   have HMF:=HM1.out.later HB5.out
   rw [← EGG.out] at HMF
   have HTF:=TurnM.mk (gb_fresh (gb_trans (gb_below HB0.out (some g)) (gb_below HB5.out _)) hO11.out (by rw [E0.out];omega)) (HMF.sub hO11.out (by have:=HGL.out;omega) HGG.out) rfl
   refine bodyPost_ret (res_c Tryz.results22 rfl (load_blk hB11.out Tryz.underlying39 rfl Tryz.szR)) rfl ?_
   refine ret_eq ?_ (RetRes.code rfl rfl HTF)
   show (m.x,whenC false)=abortM m.x c
   unfold abortM
   rw [HF.out]
 · clear c6
   have HF:=Lh (And.intro hi hf)
   have HB2:=Lh hb
   have hob:i.x.obj.nodes.length≤255:=hnd.out i.x (int_mem HM1.out.inn hi)
   have hver:i.x.obj.version=c.version:=ver_of hRI.out hf
   have HOB:=Lh (And.intro hob hver)
   clear hf hb hi hob hver
   obtain⟨ic,eic⟩:∃ic,iA i=ic:=⟨_,rfl⟩
   have I7:=Lh (show ic[7]?=some (.int .u64 (i.x.client:Int)) from by rw [← eic];rfl)
   have I8:=Lh (show ic[8]?=some (.int .u64 (i.x.seq:Int)) from by rw [← eic];rfl)
   have IZ:=Lh (show ic.size=9 from by rw [← eic];rfl)
   have IO:=Lh (show ic.toList.all (·.oneCell')=true from by rw [← eic];rfl)
   have HM2:=Lh (HM1.out.later HB2.out)
   have HGU:=Lh (fun W (h:Hid (MS GG g m W))=>giveUp_any GG g m i W h (Lh (h.out.inn.rows.is i HF.out.1)) (Lh ((h.out.off g h.out.mem).is i HF.out.1)) HOB.out.1 hRW hRI (by have:=HOB.out.1;omega))
   rw [eic] at HGU ⊢
   clear eic
   go_wp2_with (first
    | (refine wpl_store_blk rfl 60 (.tmp 5) (.tmp 12) rfl w2.heap.size 60 iZ ic rfl rfl (Blk.new w2 _ _) (by rw [IZ.out];rfl) (by rw [IZ.out];exact Tryz.szIt) IO.out ?_;intro w4 hB4 hO4;have HB4:=Lh (show Below w2.heap.size w2 w4 from ((Below.refl _ _).alloc (Nat.le_refl _) _).trans (hO4.out.below (Nat.le_refl _)));have HI4:=Lh hB4.out;clear hB4 hO4)
    | (refine wpl_load_blk rfl 60 (.tmp 5) rfl w2.heap.size 60 ic _ rfl HI4.out Tryz.underlying60 rfl (by rw [IZ.out];exact Tryz.szIt) ?_)
    | (go_at_call 60;refine (HGU.out _ (Lh (HM2.out.later HB4.out))).mono ?_;rintro e w5 ⟨rfl,hgb,m5,hm5,hx5⟩;have HGB5:=Lh hgb;have HM5:=Lh hm5;have HX5:=Lh hx5;clear hgb hm5 hx5;have i7:=(HI4.out.gb HGB5.out (by have:=HM2.out.lt g HM2.out.mem;omega)).cell 7;rw [I7.out] at i7;have i8:=(HI4.out.gb HGB5.out (by have:=HM2.out.lt g HM2.out.mem;omega)).cell 8;rw [I8.out] at i8;have v6:=((HB.out.below (HB2.out.trans (HB4.out.mono HB2.out.size)) HB.out.lt).gb HGB5.out (Nat.ne_of_gt HGL.out)).cell 6;rw [V6.out] at v6;have hsl5:m5.x.sess.length+1≤16777216:=by rw [HX5.out];exact hls)
    | (go_at_call 54;refine (remember_any GG g m5 ⟨i.x.client,i.x.seq,false,c.version,3⟩ _ HM5 (Lh (by rw [HX5.out];exact hRS.out)) hsl5).mono ?_;rintro e w6 ⟨rfl,hgb,m6,hm6,hx6⟩;have HGB6:=Lh hgb;have HM6:=Lh hm6;have HX6:=Lh hx6;clear hgb hm6 hx6 i7 i8 v6;have v6:=(((HB.out.below (HB2.out.trans (HB4.out.mono HB2.out.size)) HB.out.lt).gb HGB5.out (Nat.ne_of_gt HGL.out)).gb HGB6.out (Nat.ne_of_gt HGL.out)).cell 6;rw [V6.out] at v6;have HRX:=Lh (((HRB.out.below (HB2.out.trans (HB4.out.mono HB2.out.size)) HRB.out.lt).gb HGB5.out (by have:=HGL.out;omega)).gb HGB6.out (by have:=HGL.out;omega)))
    | (refine wpl_store_blk rfl 39 (.tmp 4) _ rfl (b0+1) 39 rZ (rcs ⟨1,c.version,[],0⟩ none 0) rfl rfl HRX.out rfl Tryz.szR rfl ?_;intro w11 hB11 hO11))
   have HGF:=Lh (gb_trans (gb_trans (gb_below (HB2.out.trans (HB4.out.mono HB2.out.size)) (some g)) HGB5.out) HGB6.out)
   have HMF:=HM6.out
   rw [← EGG.out] at HMF
   have HTF:=TurnM.mk (gb_fresh (gb_trans (gb_below HB0.out (some g)) HGF.out) hO11.out (by rw [E0.out];omega)) (HMF.sub hO11.out (by have:=HGL.out;omega) HGG.out) rfl
   refine bodyPost_ret (res_c Tryz.results22 rfl (load_blk hB11.out Tryz.underlying39 rfl Tryz.szR)) rfl ?_
   refine ret_eq ?_ (RetRes.code rfl rfl HTF)
   show (m6.x,(⟨1,c.version,[],0⟩:ResT))=abortM m.x c
   unfold abortM
   rw [HF.out.2,HX6.out,HX5.out]
theorem commit_any (G:List Nat) (g:Nat) (m:MM) (c:CmdT) (CA:Option Addr) (cc:Nat) (w:World) (hM:Hid (MS G g m w)) (hRW:Hid (Ris wasO (fun x=>x) m.x.wass)) (hRI:Hid (Ris natO verI m.x.ints)) (hRS:Hid (Ris natO SesT.client m.x.sess)) (hnd:Hid (∀x ∈ m.x.ints,x.obj.nodes.length≤255)) (hl:m.x.wass.length+255≤33554432) (hls:m.x.sess.length+1≤16777216) (hRO:Hid (Ris bytO ObjT.key m.x.objs)) (hndo:Hid (∀o ∈ m.x.objs,o.nodes.length≤255)) (hlo:m.x.objs.length+1≤16777216) :
 Calls Tryz.prog 21 #[.pointer (some ⟨g,0,none⟩),.agg (cmdCs c CA cc)] w (RetRes G g (commitM m.x c) w):=by
 obtain⟨cs,ecs⟩:∃cs,cmdCs c CA cc=cs:=⟨_,rfl⟩
 have V0:=Lh (show cs[0]?=some (.int .i64 c.kind) from by rw [← ecs];rfl)
 have V1:=Lh (show cs[1]?=some (.int .u64 (c.client:Int)) from by rw [← ecs];rfl)
 have V2:=Lh (show cs[2]?=some (.int .u64 (c.seq:Int)) from by rw [← ecs];rfl)
 have V3:=Lh (show cs[3]?=some (.string (strOf c.key)) from by rw [← ecs];rfl)
 have V4:=Lh (show cs[4]?=some (.int .i64 c.size) from by rw [← ecs];rfl)
 have V5:=Lh (show cs[5]?=some (.int .u32 (c.sum:Int)) from by rw [← ecs];rfl)
 have V6:=Lh (show cs[6]?=some (.int .u64 (c.version:Int)) from by rw [← ecs];rfl)
 have V7:=Lh (show cs[7]?=some (.int .u64 (c.epoch:Int)) from by rw [← ecs];rfl)
 have V8:=Lh (show cs[8]?=some (.int .i64 c.group) from by rw [← ecs];rfl)
 have V9:=Lh (show cs[9]?=some (.int .i64 c.node) from by rw [← ecs];rfl)
 have V10:=Lh (show cs[10]?=some (.bool c.up) from by rw [← ecs];rfl)
 have V11:=Lh (show cs[11]?=some (.int .u64 (c.id.ver:Int)) from by rw [← ecs];rfl)
 have V12:=Lh (show cs[12]?=some (.int .i64 c.id.idx) from by rw [← ecs];rfl)
 have V13:=Lh (show cs[13]?=some (.int .u64 (c.id.ep:Int)) from by rw [← ecs];rfl)
 have V14:=Lh (show cs[14]?=some (.int .u64 (c.mep:Int)) from by rw [← ecs];rfl)
 have V15:=Lh (show cs[15]?=some (.slice CA c.mem.length cc) from by rw [← ecs];rfl)
 have HCS:=Lh (show cs.size=16 from by rw [← ecs];rfl)
 have HCO:=Lh (show cs.toList.all (·.oneCell')=true from by rw [← ecs];rfl)
 rw [ecs]
 have ECS:=Lh ecs
 clear ecs
 have HGL:=Lh hM.out.blk.lt
 go_enter Tryz.func21,Tryz.ntmps21
 go_upto_region 1 with (fail)
 obtain⟨w1,ew1⟩:∃w1,(w.alloc (.cells cs 48)).alloc (.cells rZ 39)=w1:=⟨_,rfl⟩
 have hb0:Below w.heap.size w ((w.alloc (.cells cs 48)).alloc (.cells rZ 39)):=((Below.refl _ _).alloc (Nat.le_refl _) _).alloc (by simp) _
 have hB:=(Blk.new w 48 cs).alloc (.cells rZ 39)
 have hR:=Blk.new (w.alloc (.cells cs 48)) 39 rZ
 have hs1:(w.alloc (.cells cs 48)).heap.size=w.heap.size+1:=by simp
 rw [hs1] at hR
 rw [ew1] at hb0 hB hR
 have ew1':(w.alloc (.cells cs 48)).alloc (.cells #[.int .i64 0,.int .u64 0,.slice none 0 0,.int .u64 0] 39)=w1:=ew1
 rw [ew1']
 have HB0:=Lh hb0
 have HB:=Lh hB
 have HRB:=Lh hR
 have HM1:=Lh (hM.out.add hb0 (k:=w.heap.size+1) (by omega) hR.lt)
 have HGG:=Lh hM.out.mem
 clear hb0 hB hR hs1 ew1 ew1' hM
 obtain⟨b0,e0⟩:∃b0,w.heap.size=b0:=⟨_,rfl⟩
 have E0:=Lh e0
 rw [e0] at HB HRB HGL HM1 ⊢
 clear e0
 obtain⟨GG,eGG⟩:∃GG,(b0+1) :: G=GG:=⟨_,rfl⟩
 have EGG:=Lh eGG
 rw [eGG] at HM1
 clear eGG
 have c6:w1.cell? ⟨b0,6,none⟩=some (.int .u64 (c.version:Int)):=(HB.out.cell 6).trans V6.out
 go_wp2_with fail
 refine (intent_any GG g m c.version _ HM1 hRI).mono ?_
 rintro e w2 ⟨hb,⟨hf,rfl⟩ | ⟨i,hi,hf,rfl⟩⟩
 · clear c6
   have HF:=Lh hf
   have HB2:=Lh hb
   clear hf hb
   go_wp2_with (first
    | (refine wpl_store_blk rfl 60 (.tmp 5) (.tmp 12) rfl w2.heap.size 60 iZ iZ rfl rfl (Blk.new w2 _ _) rfl Tryz.szIt rfl ?_;intro w4 hB4 hO4;have HB4:=Lh (show Below w1.heap.size w1 w4 from HB2.out.trans (((Below.refl w2.heap.size w2).alloc (Nat.le_refl _) _ |>.trans (hO4.out.below (Nat.le_refl _))).mono HB2.out.size));have HR4:=Lh (HRB.out.below HB4.out HRB.out.lt);clear hB4 hO4)
    | (go_at_call 19;refine (when_any _ _).mono ?_;rintro e w10 ⟨rfl,hb10⟩;have HB10:=Lh hb10;have HR10:=Lh (HR4.out.below hb10 HR4.out.lt);clear hb10)
    | (refine wpl_store_blk rfl 39 (.tmp 4) _ rfl (b0+1) 39 rZ _ rfl rfl HR10.out rfl Tryz.szR rfl ?_;intro w11 hB11 hO11))
   have HB5:=Lh (HB4.out.trans (HB10.out.mono HB4.out.size))
   have HMF:=HM1.out.later HB5.out
   rw [← EGG.out] at HMF
   have HTF:=TurnM.mk (gb_fresh (gb_trans (gb_below HB0.out (some g)) (gb_below HB5.out _)) hO11.out (by rw [E0.out];omega)) (HMF.sub hO11.out (by have:=HGL.out;omega) HGG.out) rfl
   refine bodyPost_ret (res_c Tryz.results21 rfl (load_blk hB11.out Tryz.underlying39 rfl Tryz.szR)) rfl ?_
   refine ret_eq ?_ (RetRes.code rfl rfl HTF)
   show (m.x,whenC false)=commitM m.x c
   unfold commitM
   rw [HF.out]
 · clear c6
   have HF:=Lh (And.intro hi hf)
   have HB2:=Lh hb
   have hob:i.x.obj.nodes.length≤255:=hnd.out i.x (int_mem HM1.out.inn hi)
   have hver:i.x.obj.version=c.version:=ver_of hRI.out hf
   have HOB:=Lh (And.intro hob hver)
   clear hf hb hi hob hver
   obtain⟨ic,eic⟩:∃ic,iA i=ic:=⟨_,rfl⟩
   have EIC:=Lh eic
   have I0:=Lh (show ic[0]?=some (.string (strOf i.x.obj.key)) from by rw [← eic];rfl)
   have I7:=Lh (show ic[7]?=some (.int .u64 (i.x.client:Int)) from by rw [← eic];rfl)
   have I8:=Lh (show ic[8]?=some (.int .u64 (i.x.seq:Int)) from by rw [← eic];rfl)
   have IZ:=Lh (show ic.size=9 from by rw [← eic];rfl)
   have IO:=Lh (show ic.toList.all (·.oneCell')=true from by rw [← eic];rfl)
   have HM2:=Lh (HM1.out.later HB2.out)
   have HKB:=Lh (HM1.out.inn.ikeys i HF.out.1)
   rw [eic]
   clear eic
   go_wp2_with (refine wpl_store_blk rfl 60 (.tmp 5) (.tmp 12) rfl w2.heap.size 60 iZ ic rfl rfl (Blk.new w2 _ _) (by rw [IZ.out];rfl) (by rw [IZ.out];exact Tryz.szIt) IO.out ?_;intro w4 hB4 hO4)
   have HB24:=Lh (show Below w2.heap.size w2 w4 from ((Below.refl _ _).alloc (Nat.le_refl _) _).trans (hO4.out.below (Nat.le_refl _)))
   have HB14:=Lh (HB2.out.trans (HB24.out.mono HB2.out.size))
   have HI4:=Lh hB4.out
   have HM4:=Lh (HM2.out.later HB24.out)
   have HBc:=Lh (HB.out.below HB14.out HB.out.lt)
   have HR4:=Lh (HRB.out.below HB14.out HRB.out.lt)
   have HNI:=Lh (show g<w2.heap.size from HM2.out.lt g HM2.out.mem)
   have HRI4:=Lh (HM4.out.inn.rows.is i HF.out.1)
   have HRF:=Lh (fun q (hq:q ∈ GG)=>(HM4.out.off q hq).is i HF.out.1)
   clear hB4 hO4 HM2 HB24
   obtain⟨b5,e5⟩:∃b5,w2.heap.size=b5:=⟨_,rfl⟩
   rw [e5] at HI4 HNI ⊢
   clear e5
   obtain⟨nn,enn⟩:∃nn,m.x.ints.length=nn:=⟨_,rfl⟩
   have ENN:=Lh enn
   have hnn:nn≤16777216:=by rw [← enn];exact HM4.out.inn.wf.il
   have HLN:=Lh (show (m.is).length=nn from by rw [← enn];exact HM4.out.inn.ilen)
   clear enn
   refine wp_region_late (S0:=fun w'=>w'.cell? ⟨b0,6,none⟩=some (.int .u64 (c.version:Int))) (S:=fun w'=>w'.cell? ⟨g,9,none⟩=some (.slice m.IA nn m.ic)) 13 14 (by kernel_rfl) rfl ⟨(HBc.out.cell 6).trans V6.out,(HM4.out.blk.cell 9).trans (by rw [← ENN.out];rfl)⟩ (fun wd hwd hH=>?_)
   have DW:=Lh (show Below w4.heap.size w4 wd from by rw [hwd];exact (Below.refl _ _).drew)
   clear hwd
   have HMd:=Lh (HM4.out.later DW.out)
   have HBcd:=Lh (HBc.out.below DW.out HBc.out.lt)
   refine tS 0 rfl ?_ hH ?_ ?_
   rotate_left
   · (intro wx hx;go_simp <;> with_reducible rfl)
   try simp only [Act.put,pA9,pZ9,pS9]
   refine tS 1 rfl ?_ hH ?_ ?_
   rotate_left
   · (intro wx hx;go_simp <;> with_reducible rfl)
   try simp only [Act.put,pA9,pZ9,pS9]
   refine tS 2 rfl ?_ hH ?_ ?_
   rotate_left
   · (intro wx hx;go_simp <;> with_reducible rfl)
   try simp only [Act.put,pA9,pZ9,pS9]
   refine tS 3 rfl ?_ hH ?_ ?_
   rotate_left
   · (intro wx hx;go_simp <;> with_reducible rfl)
   try simp only [Act.put,pA9,pZ9,pS9]
   refine tS 4 rfl ?_ hH ?_ ?_
   rotate_left
   · (intro wx hx;go_simp <;> with_reducible rfl)
   try simp only [Act.put,pA9,pZ9,pS9]
   refine wpAnyT_take 5 (v:=?_) rfl (by kernel_rfl) (fun _ _ _ h=>h) (Or.inl ⟨by rfl,?_⟩) hH ?_
   rotate_left
   · (intro wx hx;go_simp <;> with_reducible rfl)
   try simp only [Act.put,pA9,pZ9,pS9]
   refine tS 6 rfl ?_ hH ?_ ?_
   rotate_left
   · (intro wx hx;go_simp <;> with_reducible rfl)
   try simp only [Act.put,pA9,pZ9,pS9]
   refine tS 7 rfl ?_ hH ?_ ?_
   rotate_left
   · (intro wx hx;go_simp <;> with_reducible rfl)
   try simp only [Act.put,pA9,pZ9,pS9]
   refine wpAnyT_one 8 rfl (by kernel_rfl) (fun K hQ=>?_)
   go_simp
   (go_at_call 57;refine (mkItt (c.version) _).mono ?_;rintro e w8 ⟨rfl,hc8,hb8⟩)
   have HC8:=Lh hc8
   have HB8:=Lh hb8
   have HM8:=Lh (HMd.out.later hb8)
   clear hc8 hb8
   refine hQ.out _ _ ?_ (fun hH8=>?_)
   · exact⟨((HBcd.out.below HB8.out HBcd.out.lt).cell 6).trans V6.out,(HM8.out.blk.cell 9).trans (by rw [← ENN.out];rfl)⟩
   clear hQ K
   try simp only [Act.put,pA9,pZ9,pS9]
   refine wpAnyT_one 9 rfl (by kernel_rfl) (fun K hQ=>?_)
   go_simp
   (go_at_call 56;refine (dropItt m.IA nn m.ic m.is wd.heap.size (c.version) _ (Lh (by have:=HM8.out.inn.rows.ints.rd;unfold MM.ints at this;rw [ENN.out] at this;exact this)) (Lh HLN.out) (by omega) HC8 (Lh fun _ _=>trivial) trivial (by have:=HM8.out.inn.rows.ints.nc;unfold MM.ints at this;rw [ENN.out] at this;exact this) HM8.out.inn.rows.ints.cm).mono ?_;rintro e w9 ⟨A9,c9,rfl,hr9,hn9,hm9,hb9,ho9⟩)
   have HR9:=Lh hr9
   have HO9:=Lh ho9
   have HN9:=Lh (And.intro hn9 hm9)
   have HM9:=Lh (HM8.out.later hb9)
   have HB89:=Lh (HB8.out.trans (hb9.mono HB8.out.size))
   have z0:w9.cell? ⟨g,9,none⟩=some (.slice m.IA nn m.ic):=(HM9.out.blk.cell 9).trans (by rw [← ENN.out];rfl)
   have z1:w9.frozen? ⟨g,9,none⟩=false:=HM9.out.blk.frozen 9
   clear hr9 ho9 hn9 hm9 hb9
   refine hQ.out _ _ ?_ (fun hH9=>?_)
   · exact⟨((HBcd.out.below HB89.out HBcd.out.lt).cell 6).trans V6.out,z0⟩
   clear hQ K
   try simp only [Act.put,pA9,pZ9,pS9]
   refine tS 10 rfl ?_ hH9 ?_ ?_
   rotate_left
   · (intro wx hx;go_simp <;> with_reducible rfl)
   try simp only [Act.put,pA9,pZ9,pS9]
   refine tS 11 rfl ?_ hH9 ?_ ?_
   rotate_left
   · (intro wx hx;go_simp <;> with_reducible rfl)
   try simp only [Act.put,pA9,pZ9,pS9]
   refine tS 12 rfl ?_ hH9 ?_ ?_
   rotate_left
   · (intro wx hx;go_simp <;> with_reducible rfl)
   try simp only [Act.put,pA9,pZ9,pS9]
   refine wpAnyT_last 13 rfl (by kernel_rfl) (by decide) (fun K hQ=>?_)
   go_simp
   refine hQ.out _ _ ?_ (fun hH13=>?_)
   · exact (((HBcd.out.below HB89.out HBcd.out.lt).far (Nat.ne_of_gt HGL.out) _).cell 6).trans V6.out
   clear hQ K
   try simp only [Act.put,pA9,pZ9,pS9]
   refine wpAnyT_done (by kernel_rfl) ?_ _
   obtain⟨L9,eL9⟩:∃L,dropB (fL (cmpItt (c.version)) m.is) (m.is)=L:=⟨_,rfl⟩
   have hsub:∀i ∈ L9,i ∈ m.is:=fun i hi=>by rw [← eL9] at hi;exact mem_dropB hi
   have hpos:0<L9.length→0<nn:=fun h=>by rw [← eL9] at h;have:=drop_pos h;rw [← HLN.out];exact this
   have hlen:L9.length≤nn:=by rw [← HLN.out,← eL9,dropB_len];split <;> omega
   rw [eL9] at HR9 HO9 HN9 ⊢
   have SUB:=Lh hsub
   have POS:=Lh hpos
   have LEN:=Lh hlen
   have EL9:=Lh eL9
   clear eL9 hsub hpos hlen
   have GS:=Lh (HM9.out.blk.set_ 9 (.slice A9 L9.length c9))
   have OS:=Lh (Only.set_ w9 g 9 (.slice A9 L9.length c9))
   obtain⟨wx,hwx⟩:∃wx,w9.setCell ⟨g,9,none⟩ (.slice A9 L9.length c9)=wx:=⟨_,rfl⟩
   rw [hwx] at GS OS ⊢
   clear hwx z0 z1 hH hH8 hH9 hH13
   have hO9:∀q ∈ GG,(⟨9,A9,c9,L9.length,L9.flatMap imCs⟩:RowT).Off q:=fun q hq=>off_drop (n:=nn) (by have:=(HMd.out.off q hq).ints;unfold MM.ints at this;rw [ENN.out] at this;exact this) POS.out (HM8.out.lt q hq) HO9.out
   have hI9:(⟨9,A9,c9,L9.length,L9.flatMap imCs⟩:RowT).In w9:=⟨HR9.out,HN9.out.1,HN9.out.2⟩
   have HX:=Lh (HM9.out.setI (gb_only OS.out) GS.out (hI9.grown (hO9 g HM9.out.mem) (gb_only OS.out)) hO9 (by have:=LEN.out;omega) (fun q hq => .inl (SUB.out q hq)))
   have HGX:=Lh (gb_trans (gb_trans (gb_below DW.out (some g)) (gb_below HB89.out _)) (gb_only OS.out))
   have HLX:=Lh (show (L9.map (·.x))=dropR natO verI c.version m.x.ints from by rw [← EL9.out];exact drop_int HM4.out.inn.is hRI.out _)
   have HB5:=Lh (HBc.out.gb HGX.out (Nat.ne_of_gt HGL.out))
   have HI5:=Lh (HI4.out.gb HGX.out (Nat.ne_of_gt HNI.out))
   have HR5:=Lh (HR4.out.gb HGX.out (by have:=HGL.out;omega))
   have HRI5:=Lh (HRI4.out.grown (HRF.out g HM4.out.mem) HGX.out)
   obtain⟨m5,em5⟩:∃m5,m.setI L9 A9 c9=m5:=⟨_,rfl⟩
   have HX5:=Lh (show m5.x={ m.x with ints:=dropR natO verI c.version m.x.ints } from by rw [← em5,← HLX.out];rfl)
   rw [em5] at HX
   have hR5:=Lh (show Ris bytO ObjT.key m5.x.objs from by rw [HX5.out];exact hRO.out)
   have HAW:=Lh (fun W (h:Hid (MS GG g m5 W))=>away_any GG g m5 i.x.obj.key W h HKB.out (Lh (by rw [HX5.out];exact hRW.out)) hR5 (Lh (by rw [HX5.out];exact hndo.out)) (by rw [HX5.out];exact hl))
   clear em5 HM9 HI4 HBc HR4 HM4 GS OS hI9 hO9 HR9 HO9 HN9 HMd HM8 HC8 HRI4
   have i0:=HI5.out.cell 0
   rw [I0.out] at i0
   go_wp2_with fail
   refine (HAW.out _ HX).mono ?_
   rintro e w6 ⟨rfl,hgb,m6,hm6,hx6⟩
   have HGB6:=Lh hgb
   have HM6:=Lh hm6
   have HX6:=Lh hx6
   have HAF:=Lh (away_facts hR5.out i.x.obj.key)
   have HR6o:=Lh (show Ris bytO ObjT.key m6.x.objs from by rw [HX6.out];exact HAF.out.1)
   have HL6o:=Lh (show m6.x.objs.length≤m.x.objs.length from by rw [HX6.out];have:=HAF.out.2.1;rw [HX5.out] at this ⊢;exact this)
   have HS6:=Lh (show m6.x.sess=m.x.sess from by rw [HX6.out,HAF.out.2.2,HX5.out])
   have HB6:=Lh (HB5.out.gb HGB6.out (Nat.ne_of_gt HGL.out))
   have HI6:=Lh (HI5.out.gb HGB6.out (Nat.ne_of_gt HNI.out))
   have HR6:=Lh (HR5.out.gb HGB6.out (by have:=HGL.out;omega))
   have HRI6:=Lh (HRI5.out.grown (HRF.out g HM6.out.mem) HGB6.out)
   have HK6:=Lh HM6.out.inn.okeys
   have HG6:=Lh (gb_trans HGX.out HGB6.out)
   clear hgb hm6 hx6 i0 HB5 HI5 HR5 HRI5 HAW HX HB89 DW LEN SUB POS EL9 HLN ENN HB8 HGX HGB6 HLX
   go_wp2_with fail
   obtain⟨nn,enn⟩:∃nn,m6.x.objs.length=nn:=⟨_,rfl⟩
   have ENN:=Lh enn
   have hnn:nn≤16777216:=by rw [← enn];exact HM6.out.inn.wf.ol
   have HLN:=Lh (show (m6.os).length=nn from by rw [← enn];exact HM6.out.inn.olen)
   clear enn
   refine wp_region_late (S0:=fun w'=>Blk w' b5 60 ic∧w'.cell? ⟨b5,0,none⟩=some (.string (strOf i.x.obj.key))) (S:=fun w'=>w'.cell? ⟨g,8,none⟩=some (.slice m6.OA nn m6.oc)) 16 17 (by kernel_rfl) rfl ⟨⟨HI6.out.drew,(HI6.out.cell 0).trans I0.out⟩,(HM6.out.blk.cell 8).trans (by rw [← ENN.out];rfl)⟩ (fun wd hwd hH=>?_)
   have DW:=Lh (show Below w6.heap.size w6 wd from by rw [hwd];exact (Below.refl _ _).drew)
   clear hwd
   have HMd:=Lh (HM6.out.later DW.out)
   have HI6d:=Lh (HI6.out.below DW.out HI6.out.lt)
   refine tS 0 rfl ?_ hH ?_ ?_
   rotate_left
   · (intro wx hx;obtain⟨_,_⟩:=hx;go_simp <;> with_reducible rfl)
   try simp only [Act.put,pA9,pZ9,pS9]
   refine tS 1 rfl ?_ hH ?_ ?_
   rotate_left
   · (intro wx hx;obtain⟨_,_⟩:=hx;go_simp <;> with_reducible rfl)
   try simp only [Act.put,pA9,pZ9,pS9]
   refine tS 2 rfl ?_ hH ?_ ?_
   rotate_left
   · (intro wx hx;obtain⟨_,_⟩:=hx;go_simp <;> with_reducible rfl)
   try simp only [Act.put,pA9,pZ9,pS9]
   refine tS 3 rfl ?_ hH ?_ ?_
   rotate_left
   · (intro wx hx;obtain⟨_,_⟩:=hx;go_simp <;> with_reducible rfl)
   try simp only [Act.put,pA9,pZ9,pS9]
   refine tS 4 rfl ?_ hH ?_ ?_
   rotate_left
   · (intro wx hx;obtain⟨_,_⟩:=hx;go_simp <;> with_reducible rfl)
   try simp only [Act.put,pA9,pZ9,pS9]
   refine wpAnyT_take 5 (v:=?_) rfl (by kernel_rfl) (fun _ _ _ h=>h) (Or.inl ⟨by rfl,?_⟩) hH ?_
   rotate_left
   · (intro wx hx;go_simp <;> with_reducible rfl)
   try simp only [Act.put,pA9,pZ9,pS9]
   refine tS 6 rfl ?_ hH ?_ ?_
   rotate_left
   · (intro wx hx;obtain⟨_,_⟩:=hx;go_simp <;> with_reducible rfl)
   try simp only [Act.put,pA9,pZ9,pS9]
   refine wpAnyT_stay 7 rfl (by kernel_rfl) (fun _ _ _ h=>h) (yields_obj rfl 58 (.tmp 41) rfl ⟨b5,0,none⟩ (toO i) _ rfl (fun w' hw'=>iA_obj (i:=i) (by rw [EIC.out];exact hw'.1)) Tryz.underlying58 rfl Tryz.szObj) ⟨hH.1,fun _=>hH.2⟩ ?_
   try simp only [Act.put,pA9,pZ9,pS9]
   refine tS 8 rfl ?_ hH ?_ ?_
   rotate_left
   · (intro wx hx;obtain⟨_,_⟩:=hx;go_simp <;> with_reducible rfl)
   try simp only [Act.put,pA9,pZ9,pS9]
   refine tS 9 rfl ?_ hH ?_ ?_
   rotate_left
   · (intro wx hx;obtain⟨_,_⟩:=hx;go_simp <;> with_reducible rfl)
   try simp only [Act.put,pA9,pZ9,pS9]
   refine tS 10 rfl ?_ hH ?_ ?_
   rotate_left
   · (intro wx hx;obtain⟨_,_⟩:=hx;go_simp <;> with_reducible rfl)
   try simp only [Act.put,pA9,pZ9,pS9]
   refine wpAnyT_one 11 rfl (by kernel_rfl) (fun K hQ=>?_)
   go_simp
   (go_at_call 33;refine (mkObj (i.x.obj.key) _).mono ?_;rintro e w8 ⟨rfl,hc8,hb8⟩)
   have HC8:=Lh hc8
   have HB8:=Lh hb8
   have HM8:=Lh (HMd.out.later hb8)
   clear hc8 hb8
   refine hQ.out _ _ ?_ (fun hH11=>?_)
   · exact⟨⟨HI6d.out.below HB8.out HI6d.out.lt,((HI6d.out.below HB8.out HI6d.out.lt).cell 0).trans I0.out⟩,(HM8.out.blk.cell 8).trans (by rw [← ENN.out];rfl)⟩
   clear hQ K
   try simp only [Act.put,pA9,pZ9,pS9]
   refine wpAnyT_one 12 rfl (by kernel_rfl) (fun K hQ=>?_)
   go_simp
   (go_at_call 59;refine (putObj m6.OA nn m6.oc m6.os (toO i) wd.heap.size (i.x.obj.key) _ (Lh (by have:=HM8.out.inn.rows.objs.rd;unfold MM.objs at this;rw [ENN.out] at this;exact this)) (Lh HLN.out) (by omega) HC8 HK6 HKB.out).mono ?_;rintro e w9 ⟨v9,rfl,ho9,hb9⟩)
   obtain⟨A9,c9,rfl,h91,h92⟩:=own_slice ho9
   have HO9:=Lh (rowIn_own ho9)
   have HM9:=Lh (HM8.out.later hb9)
   have HB89:=Lh (HB8.out.trans (hb9.mono HB8.out.size))
   have z0:w9.cell? ⟨g,8,none⟩=some (.slice m6.OA nn m6.oc):=(HM9.out.blk.cell 8).trans (by rw [← ENN.out];rfl)
   have z1:w9.frozen? ⟨g,8,none⟩=false:=HM9.out.blk.frozen 8
   clear ho9 hb9
   refine hQ.out _ _ ?_ (fun hH12=>?_)
   · exact⟨⟨HI6d.out.below HB89.out HI6d.out.lt,((HI6d.out.below HB89.out HI6d.out.lt).cell 0).trans I0.out⟩,z0⟩
   clear hQ K
   try simp only [Act.put,pA9,pZ9,pS9]
   refine tS 13 rfl ?_ hH12 ?_ ?_
   rotate_left
   · (intro wx hx;obtain⟨_,_⟩:=hx;go_simp <;> with_reducible rfl)
   try simp only [Act.put,pA9,pZ9,pS9]
   refine tS 14 rfl ?_ hH12 ?_ ?_
   rotate_left
   · (intro wx hx;obtain⟨_,_⟩:=hx;go_simp <;> with_reducible rfl)
   try simp only [Act.put,pA9,pZ9,pS9]
   refine tS 15 rfl ?_ hH12 ?_ ?_
   rotate_left
   · (intro wx hx;obtain⟨_,_⟩:=hx;go_simp <;> with_reducible rfl)
   try simp only [Act.put,pA9,pZ9,pS9]
   refine wpAnyT_last 16 rfl (by kernel_rfl) (by decide) (fun K hQ=>?_)
   go_simp
   refine hQ.out _ _ ?_ (fun hH16=>?_)
   · exact⟨(HI6d.out.below HB89.out HI6d.out.lt).far (Nat.ne_of_gt HNI.out) _,(((HI6d.out.below HB89.out HI6d.out.lt).far (Nat.ne_of_gt HNI.out) _).cell 0).trans I0.out⟩
   clear hQ K
   try simp only [Act.put,pA9,pZ9,pS9]
   refine wpAnyT_done (by kernel_rfl) ?_ _
   obtain⟨L9,eL9⟩:∃L,putB (fL (cmpObj (i.x.obj.key)) m6.os) (toO i) (m6.os)=L:=⟨_,rfl⟩
   have hsub:∀q ∈ L9,q=toO i∨q ∈ m6.os:=fun q hq=>by rw [← eL9] at hq;exact mem_putB hq
   have hlen:L9.length≤nn+1:=by rw [← HLN.out,← eL9,putB_len];split <;> omega
   rw [eL9] at HO9 ⊢
   have SUB:=Lh hsub
   have LEN:=Lh hlen
   have EL9:=Lh eL9
   clear eL9 hsub hlen
   have GS:=Lh (HM9.out.blk.set_ 8 (.slice A9 L9.length c9))
   have OS:=Lh (Only.set_ w9 g 8 (.slice A9 L9.length c9))
   obtain⟨wx,hwx⟩:∃wx,w9.setCell ⟨g,8,none⟩ (.slice A9 L9.length c9)=wx:=⟨_,rfl⟩
   rw [hwx] at GS OS ⊢
   clear hwx z0 z1 hH hH11 hH12 hH16
   have hO9:∀q ∈ GG,(⟨7,A9,c9,L9.length,L9.flatMap omCs⟩:RowT).Off q:=fun q hq=>HO9.out.2 q (HM8.out.lt q hq)
   have hI9:(⟨7,A9,c9,L9.length,L9.flatMap omCs⟩:RowT).In w9:=HO9.out.1
   have HX:=Lh (HM9.out.setO (gb_only OS.out) GS.out (hI9.grown (hO9 g HM9.out.mem) (gb_only OS.out)) hO9 (by have:=LEN.out;have:=HL6o.out;have:=ENN.out;omega) (fun q hq=>by
    rcases SUB.out q hq with rfl | h
    · have h1:(iRow i).In w9:=(HRI6.out.later DW.out).later HB89.out
      exact .inr ⟨h1.grown (HRF.out g HM9.out.mem) (gb_only OS.out),HRF.out,HKB.out⟩
    · exact .inl h))
   have HGX:=Lh (gb_trans (gb_trans (gb_below DW.out (some g)) (gb_below HB89.out _)) (gb_only OS.out))
   have HLX:=Lh (show (L9.map (·.x))=putR bytO ObjT.key i.x.obj m6.x.objs from by rw [← EL9.out];exact put_obj HM6.out.inn.os HR6o.out (toO i))
   have HB7:=Lh (HB6.out.gb HGX.out (Nat.ne_of_gt HGL.out))
   have HI7:=Lh (HI6.out.gb HGX.out (Nat.ne_of_gt HNI.out))
   have HR7:=Lh (HR6.out.gb HGX.out (by have:=HGL.out;omega))
   obtain⟨m7,em7⟩:∃m7,m6.setO L9 A9 c9=m7:=⟨_,rfl⟩
   have HX7:=Lh (show m7.x={ m6.x with objs:=putR bytO ObjT.key i.x.obj m6.x.objs } from by rw [← em7,← HLX.out];rfl)
   rw [em7] at HX
   have HG7:=Lh (gb_trans HG6.out HGX.out)
   have hsl7:m7.x.sess.length+1≤16777216:=by rw [HX7.out];show m6.x.sess.length+1≤_;rw [HS6.out];exact hls
   have HSR:=Lh (show Ris natO SesT.client m7.x.sess from by rw [HX7.out];show Ris natO SesT.client m6.x.sess;rw [HS6.out];exact hRS.out)
   have i7:=HI7.out.cell 7
   rw [I7.out] at i7
   have i8:=HI7.out.cell 8
   rw [I8.out] at i8
   have v6:=HB7.out.cell 6
   rw [V6.out] at v6
   clear em7 HM9 HI6 HB6 HR6 HM6 GS OS hI9 hO9 HO9 HMd HM8 HC8
   go_wp2_with (first
    | (go_at_call 54;refine (remember_any GG g m7 ⟨i.x.client,i.x.seq,false,c.version,1⟩ _ HX HSR hsl7).mono ?_;rintro e w8 ⟨rfl,hgb,m8,hm8,hx8⟩;have HGB8:=Lh hgb;have HM8:=Lh hm8;have HX8:=Lh hx8;clear hgb hm8 hx8 i7 i8 v6;have v6:=(HB7.out.gb HGB8.out (Nat.ne_of_gt HGL.out)).cell 6;rw [V6.out] at v6;have HRX:=Lh (HR7.out.gb HGB8.out (by have:=HGL.out;omega)))
    | (refine wpl_store_blk rfl 39 (.tmp 4) _ rfl (b0+1) 39 rZ (rcs ⟨1,c.version,[],0⟩ none 0) rfl rfl HRX.out rfl Tryz.szR rfl ?_;intro w11 hB11 hO11))
   have HG8:=Lh (gb_trans (gb_below HB14.out (some g)) (gb_trans HG7.out HGB8.out))
   have HMF:=HM8.out
   rw [← EGG.out] at HMF
   have HTF:=TurnM.mk (gb_fresh (gb_trans (gb_below HB0.out (some g)) HG8.out) hO11.out (by rw [E0.out];omega)) (HMF.sub hO11.out (by have:=HGL.out;omega) HGG.out) rfl
   refine bodyPost_ret (res_c Tryz.results21 rfl (load_blk hB11.out Tryz.underlying39 rfl Tryz.szR)) rfl ?_
   refine ret_eq ?_ (RetRes.code rfl rfl HTF)
   show (m8.x,(⟨1,c.version,[],0⟩:ResT))=commitM m.x c
   unfold commitM
   rw [HF.out.2,HX8.out,HX7.out,HX6.out,HX5.out]
end
section
open Go.RowKit OctMath
def RetAsk (G:List Nat) (g:Nat) (m:MetT) (c:CmdT) (w:World) (e:Ending) (w':World):Prop:=match askM m c with
 | .inl r=>e = .returned (.tuple #[.agg (rcs r none 0),.bool false])∧TurnM G g m w w'∧r.nodes=[]∧r.epoch=0
 | .inr m'=>e = .returned (.tuple #[.agg rZ,.bool true])∧TurnM G g m' w w'
structure Tests (c:CmdT) (s:ByteArray) (k1 s0 s1 a1 a2 a3 a4 a5:Bool):Prop where
 k:(c.kind != 1)=k1
 s0:decide (0≤c.size)=s0
 s1:decide (c.size≤65536)=s1
 a1:decide (c.client<1)=a1
 a2:decide (64<c.client)=a2
 a3:decide (c.seq=0)=a3
 a4:decide (c.key=[])=a4
 a5:decide (64<c.key.length)=a5
theorem strOf_len (x:List Nat):(strOf x).size=x.length:=by
 unfold strOf
 simp [ByteArray.size]
theorem strOf_nil (x:List Nat):((strOf x).toList == [])=decide (x=[]):=by
 rw [ByteArray.toList_eq]
 unfold strOf
 cases x <;> rfl
theorem askBad_eq {c:CmdT} {s:ByteArray} {k1 s0 s1 a1 a2 a3 a4 a5:Bool} (T:Tests c s k1 s0 s1 a1 a2 a3 a4 a5):askBad c=(a1 || a2 || a3 || a4 || a5 || !(k1 || (s0 && s1))):=by
 unfold askBad sizedM
 rw [T.a1,T.a2,T.a3,T.a4,T.a5,T.s0,T.s1,← T.k]
 congr 4
 by_cases h:c.kind=1
 · rw [h];rfl
 · have:(c.kind != 1)=true:=by simpa using h
   rw [this,decide_eq_true h]
theorem ask_bad (G:List Nat) (g:Nat) (m:MM) (c:CmdT) (CA:Option Addr) (cc:Nat) (w:World) (hM:Hid (MS G g m w)) (hkl:c.key.length≤9223372036854775807) (hbd:askBad c=true) :
 Calls Tryz.prog 50 #[.pointer (some ⟨g,0,none⟩),.agg (cmdCs c CA cc)] w (RetAsk G g m.x c w):=by
 have HBD:=Lh hbd
 obtain⟨cs,ecs⟩:∃cs,cmdCs c CA cc=cs:=⟨_,rfl⟩
 have V0:=Lh (show cs[0]?=some (.int .i64 c.kind) from by rw [← ecs];rfl)
 have V1:=Lh (show cs[1]?=some (.int .u64 (c.client:Int)) from by rw [← ecs];rfl)
 have V2:=Lh (show cs[2]?=some (.int .u64 (c.seq:Int)) from by rw [← ecs];rfl)
 have V3:=Lh (show cs[3]?=some (.string (strOf c.key)) from by rw [← ecs];rfl)
 have V4:=Lh (show cs[4]?=some (.int .i64 c.size) from by rw [← ecs];rfl)
 have V5:=Lh (show cs[5]?=some (.int .u32 (c.sum:Int)) from by rw [← ecs];rfl)
 have V6:=Lh (show cs[6]?=some (.int .u64 (c.version:Int)) from by rw [← ecs];rfl)
 have V7:=Lh (show cs[7]?=some (.int .u64 (c.epoch:Int)) from by rw [← ecs];rfl)
 have V8:=Lh (show cs[8]?=some (.int .i64 c.group) from by rw [← ecs];rfl)
 have V9:=Lh (show cs[9]?=some (.int .i64 c.node) from by rw [← ecs];rfl)
 have V10:=Lh (show cs[10]?=some (.bool c.up) from by rw [← ecs];rfl)
 have V11:=Lh (show cs[11]?=some (.int .u64 (c.id.ver:Int)) from by rw [← ecs];rfl)
 have V12:=Lh (show cs[12]?=some (.int .i64 c.id.idx) from by rw [← ecs];rfl)
 have V13:=Lh (show cs[13]?=some (.int .u64 (c.id.ep:Int)) from by rw [← ecs];rfl)
 have V14:=Lh (show cs[14]?=some (.int .u64 (c.mep:Int)) from by rw [← ecs];rfl)
 have V15:=Lh (show cs[15]?=some (.slice CA c.mem.length cc) from by rw [← ecs];rfl)
 have HCS:=Lh (show cs.size=16 from by rw [← ecs];rfl)
 have HCO:=Lh (show cs.toList.all (·.oneCell')=true from by rw [← ecs];rfl)
 rw [ecs]
 have ECS:=Lh ecs
 clear ecs
 have HGL:=Lh hM.out.blk.lt
 go_enter Tryz.func50,Tryz.ntmps50
 go_upto_region 1 with (fail)
 obtain⟨w1,ew1⟩:∃w1,(w.alloc (.cells cs 48)).alloc (.cells rZ 39)=w1:=⟨_,rfl⟩
 have hb0:Below w.heap.size w ((w.alloc (.cells cs 48)).alloc (.cells rZ 39)):=((Below.refl _ _).alloc (Nat.le_refl _) _).alloc (by simp) _
 have hB:=(Blk.new w 48 cs).alloc (.cells rZ 39)
 have hR:=Blk.new (w.alloc (.cells cs 48)) 39 rZ
 have hs1:(w.alloc (.cells cs 48)).heap.size=w.heap.size+1:=by simp
 rw [hs1] at hR
 rw [ew1] at hb0 hB hR
 have ew1':(w.alloc (.cells cs 48)).alloc (.cells #[.int .i64 0,.int .u64 0,.slice none 0 0,.int .u64 0] 39)=w1:=ew1
 rw [ew1']
 have HB0:=Lh hb0
 have HB:=Lh hB
 have HRB:=Lh hR
 have HM1:=Lh (hM.out.add hb0 (k:=w.heap.size+1) (by omega) hR.lt)
 have HGG:=Lh hM.out.mem
 clear hb0 hB hR hs1 ew1 ew1' hM
 obtain⟨b0,e0⟩:∃b0,w.heap.size=b0:=⟨_,rfl⟩
 have E0:=Lh e0
 rw [e0] at HB HRB HGL HM1 ⊢
 clear e0
 obtain⟨GG,eGG⟩:∃GG,(b0+1) :: G=GG:=⟨_,rfl⟩
 have EGG:=Lh eGG
 rw [eGG] at HM1
 clear eGG
 have c0:w1.cell? ⟨b0,0,none⟩=some (.int .i64 c.kind):=(HB.out.cell 0).trans V0.out
 have c1:w1.cell? ⟨b0,1,none⟩=some (.int .u64 (c.client:Int)):=(HB.out.cell 1).trans V1.out
 have c2:w1.cell? ⟨b0,2,none⟩=some (.int .u64 (c.seq:Int)):=(HB.out.cell 2).trans V2.out
 have c3:w1.cell? ⟨b0,3,none⟩=some (.string (strOf c.key)):=(HB.out.cell 3).trans V3.out
 have c4:w1.cell? ⟨b0,4,none⟩=some (.int .i64 c.size):=(HB.out.cell 4).trans V4.out
 obtain⟨k1,ek⟩:∃b,(c.kind != 1)=b:=⟨_,rfl⟩
 obtain⟨s0,es0⟩:∃b,decide (0≤c.size)=b:=⟨_,rfl⟩
 obtain⟨s1,es1⟩:∃b,decide (c.size≤65536)=b:=⟨_,rfl⟩
 obtain⟨a1,e1⟩:∃b,decide (c.client<1)=b:=⟨_,rfl⟩
 obtain⟨a2,e2⟩:∃b,decide (64<c.client)=b:=⟨_,rfl⟩
 obtain⟨a3,e3⟩:∃b,decide (c.seq=0)=b:=⟨_,rfl⟩
 obtain⟨a4,e4⟩:∃b,decide (c.key=[])=b:=⟨_,rfl⟩
 obtain⟨a5,e5⟩:∃b,decide (64<c.key.length)=b:=⟨_,rfl⟩
 have hbad:=askBad_eq (s:=strOf c.key) ⟨ek,es0,es1,e1,e2,e3,e4,e5⟩
 rw [hbd] at hbad
 have HBAD:=Lh hbad
 have f0:(c.kind == 1) = !k1:=by rw [← ek,bne];cases (c.kind == 1) <;> rfl
 have f0b:decide (c.size≥0)=s0:=es0
 have f1:decide ((c.client:Int)<1)=a1:=by rw [← e1,decide_eq_decide];omega
 have f1b:decide (c.client=0)=a1:=by rw [← e1,decide_eq_decide];omega
 have f2:decide ((c.client:Int)>64)=a2:=by rw [← e2,decide_eq_decide];omega
 have f2b:decide (64<(c.client:Int))=a2:=by rw [← e2,decide_eq_decide];omega
 have f3:((c.seq:Int) == 0)=a3:=by rw [← e3];by_cases h:c.seq=0 <;> simp [h]
 have f3b:(c.seq == 0)=a3:=by rw [← e3];by_cases h:c.seq=0 <;> simp [h]
 have f3c:decide ((c.seq:Int)=0)=a3:=by rw [← e3,decide_eq_decide];omega
 have f4:((strOf c.key).toList == [])=a4:=by rw [← e4];exact strOf_nil c.key
 have f4b:(strOf c.key).toList.isEmpty=a4:=by rw [← f4];cases (strOf c.key).toList <;> rfl
 have f5:decide (((strOf c.key).size:Int)>64)=a5:=by rw [← e5,decide_eq_decide,strOf_len];omega
 have f5b:decide (64<((strOf c.key).size:Int))=a5:=by rw [← e5,decide_eq_decide,strOf_len];omega
 have f5c:decide (64<(strOf c.key).size)=a5:=by rw [← e5,decide_eq_decide,strOf_len]
 have hszm:(strOf c.key).size≤9223372036854775807:=by rw [strOf_len];exact hkl
 clear hbad
 obtain⟨s,es⟩:∃s,strOf c.key=s:=⟨_,rfl⟩
 rw [es] at V3 f4 f4b f5 f5b f5c hszm c3
 clear es
 obtain⟨cl,ecl⟩:∃cl:Int,(c.client:Int)=cl:=⟨_,rfl⟩
 rw [ecl] at f1 f2 f2b c1
 obtain⟨sq,esq⟩:∃sq:Int,(c.seq:Int)=sq:=⟨_,rfl⟩
 rw [esq] at f3 f3c c2
 have ESQ:=Lh esq
 have ECL:=Lh ecl
 clear esq ecl f1b f3b f5c
 clear hbd e1 e2 e3 e4 e5
 have hcase:(k1=true∨(k1=false∧s0=false)∨(k1=false∧s0=true∧s1=true)∨(k1=false∧s0=true∧s1=false))∧(a1=true∨(a1=false∧a2=true)∨(a1=false∧a2=false∧a3=true)∨(a1=false∧a2=false∧a3=false∧a4=true)∨(a1=false∧a2=false∧a3=false∧a4=false∧a5=true)∨(a1=false∧a2=false∧a3=false∧a4=false∧a5=false)):=by
  constructor
  · cases k1 <;> cases s0 <;> cases s1 <;> simp
  · cases a1 <;> cases a2 <;> cases a3 <;> cases a4 <;> cases a5 <;> simp
 obtain⟨hk,ha⟩:=hcase
 rcases hk with rfl | ⟨rfl,rfl⟩ | ⟨rfl,rfl,rfl⟩ | ⟨rfl,rfl,rfl⟩ <;> rcases ha with rfl | ⟨rfl,rfl⟩ | ⟨rfl,rfl,rfl⟩ | ⟨rfl,rfl,rfl,rfl⟩ | ⟨rfl,rfl,rfl,rfl,rfl⟩ | ⟨rfl,rfl,rfl,rfl,rfl⟩
 all_goals (first | (refine absurd HBAD.out ?_;simp;done) | skip)
 all_goals
  clear HBAD
  go_upto_region 3 with (fail)
  go_wp2_with (first
   | (go_at_call 19;refine (when_any _ _).mono ?_;rintro e w10 ⟨rfl,hb10⟩;have HB10:=Lh hb10;clear hb10)
   | (refine wpl_store_blk rfl 39 (.tmp 4) _ rfl (b0+1) 39 rZ _ rfl rfl (HRB.out.below HB10.out HRB.out.lt) rfl Tryz.szR rfl ?_;intro w11 hB11 hO11))
  have HMF:=HM1.out.later HB10.out
  rw [← EGG.out] at HMF
  have HTF:=TurnM.mk (gb_fresh (gb_trans (gb_below HB0.out (some g)) (gb_below HB10.out _)) hO11.out (by rw [E0.out];omega)) (HMF.sub hO11.out (by have:=HGL.out;omega) HGG.out) rfl
  refine bodyPost_ret (res_ct Tryz.results50 rfl rfl (load_blk hB11.out Tryz.underlying39 rfl Tryz.szR)) rfl ?_
  unfold RetAsk askM
  rw [HBD.out,if_pos rfl]
  exact⟨rfl,HTF,rfl,rfl⟩
end
end Go.Proofs.YtdoneomahlfkbaaGreat
