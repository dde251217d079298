/- THE MACHINE: an object has moved. (printed by gen_meh13.py). (joined out of MeH13 by shake.py) -/
import Derived.Test.YtdoneomahlfkbaaGreatOnc17
set_option linter.unusedVariables false
set_option linter.unusedSimpArgs false
set_option maxRecDepth 100000
set_option maxHeartbeats 8000000
namespace Go.Proofs.YtdoneomahlfkbaaGreat
section
open Go.RowKit OctMath StrMath PlMath
theorem cell6 {w:World} {b i j:Nat} (u:Value) (h:i≠j):(w.setCell ⟨b,i,none⟩ u).cell? ⟨b,j,none⟩=w.cell? ⟨b,j,none⟩ :=
 World.cell?_setCell_other w ⟨b,i,none⟩ ⟨b,j,none⟩ u (fun e=>h (by have h9:=congrArg Addr.off e;first | exact h9 | exact h9.symm))
theorem find_first {os:List OM} {v i:Nat} (h:i<os.length) (hv:os[i].x.version=v) (hj:∀j (hj:j<i),os[j].x.version≠v):(os.map (fun o=>o.x)).find? (fun o=>o.version == v)=some os[i].x:=by
 rw [List.find?_eq_some_iff_getElem]
 refine⟨by simp [hv],i,by simpa using h,by simp,fun j hji=>?_⟩
 have:=hj j hji
 simp [this]
theorem first_none {os:List OM} {v:Nat} (hj:∀j (hj:j<os.length),os[j].x.version≠v):(os.map (fun o=>o.x)).find? (fun o=>o.version == v)=none:=by
 rw [List.find?_eq_none]
 intro x hx
 obtain⟨o,ho,rfl⟩:=List.mem_map.1 hx
 obtain⟨j,hjl,rfl⟩:=List.mem_iff_getElem.1 ho
 have:=hj j hjl
 simpa using this
theorem moved_any (G:List Nat) (g:Nat) (m:MM) (c:CmdT) (CA:Option Addr) (cc:Nat) (w:World) (hM:Hid (MS G g m w)) (ok:Hid (MOk m)) (h64:Hid (M64 m.x.nem)) :
 Calls Tryz.prog 25 #[.pointer (some ⟨g,0,none⟩),.agg (cmdCs c CA cc)] w (RetRes G g (movedM plF m.x c) w):=by
 obtain⟨cs,ecs⟩:∃cs,cmdCs c CA cc=cs:=⟨_,rfl⟩
 have V0:=Lh (show cs[0]?=some (.int .i64 c.kind) from by rw [← ecs];rfl)
 have V1:=Lh (show cs[1]?=some (.int .u64 (c.client:Int)) from by rw [← ecs];rfl)
 have V2:=Lh (show cs[2]?=some (.int .u64 (c.seq:Int)) from by rw [← ecs];rfl)
 have V3:=Lh (show cs[3]?=some (.string (strOf c.key)) from by rw [← ecs];rfl)
 have V4:=Lh (show cs[4]?=some (.int .i64 c.size) from by rw [← ecs];rfl)
 have V5:=Lh (show cs[5]?=some (.int .u32 (c.sum:Int)) from by rw [← ecs];rfl)
 have V6:=Lh (show cs[6]?=some (.int .u64 (c.version:Int)) from by rw [← ecs];rfl)
 have V7:=Lh (show cs[7]?=some (.int .u64 (c.epoch:Int)) from by rw [← ecs];rfl)
 have V8:=Lh (show cs[8]?=some (.int .i64 c.group) from by rw [← ecs];rfl)
 have V9:=Lh (show cs[9]?=some (.int .i64 c.node) from by rw [← ecs];rfl)
 have V10:=Lh (show cs[10]?=some (.bool c.up) from by rw [← ecs];rfl)
 have V11:=Lh (show cs[11]?=some (.int .u64 (c.id.ver:Int)) from by rw [← ecs];rfl)
 have V12:=Lh (show cs[12]?=some (.int .i64 c.id.idx) from by rw [← ecs];rfl)
 have V13:=Lh (show cs[13]?=some (.int .u64 (c.id.ep:Int)) from by rw [← ecs];rfl)
 have V14:=Lh (show cs[14]?=some (.int .u64 (c.mep:Int)) from by rw [← ecs];rfl)
 have V15:=Lh (show cs[15]?=some (.slice CA c.mem.length cc) from by rw [← ecs];rfl)
 have HCS:=Lh (show cs.size=16 from by rw [← ecs];rfl)
 have HCO:=Lh (show cs.toList.all (·.oneCell')=true from by rw [← ecs];rfl)
 rw [ecs]
 have ECS:=Lh ecs
 clear ecs
 have HGL:=Lh hM.out.blk.lt
 go_enter Tryz.func25,Tryz.ntmps25
 go_upto_region 1 with (fail)
 obtain⟨w1,ew1⟩:∃w1,(w.alloc (.cells cs 48)).alloc (.cells rZ 39)=w1:=⟨_,rfl⟩
 have hb0:Below w.heap.size w ((w.alloc (.cells cs 48)).alloc (.cells rZ 39)):=((Below.refl _ _).alloc (Nat.le_refl _) _).alloc (by simp) _
 have hB:=(Blk.new w 48 cs).alloc (.cells rZ 39)
 have hR:=Blk.new (w.alloc (.cells cs 48)) 39 rZ
 have hs1:(w.alloc (.cells cs 48)).heap.size=w.heap.size+1:=by simp
 rw [hs1] at hR
 rw [ew1] at hb0 hB hR
 have ew1':(w.alloc (.cells cs 48)).alloc (.cells #[.int .i64 0,.int .u64 0,.slice none 0 0,.int .u64 0] 39)=w1:=ew1
 rw [ew1']
 have HB0:=Lh hb0
 have HB:=Lh hB
 have HRB:=Lh hR
 have HM1:=Lh (hM.out.add hb0 (k:=w.heap.size+1) (by omega) hR.lt)
 have HGG:=Lh hM.out.mem
 clear hb0 hB hR hs1 ew1 ew1' hM
 obtain⟨b0,e0⟩:∃b0,w.heap.size=b0:=⟨_,rfl⟩
 have E0:=Lh e0
 rw [e0] at HB HRB HGL HM1 ⊢
 clear e0
 obtain⟨GG,eGG⟩:∃GG,(b0+1) :: G=GG:=⟨_,rfl⟩
 have EGG:=Lh eGG
 rw [eGG] at HM1
 clear eGG
 have c6:w1.cell? ⟨b0,6,none⟩=some (.int .u64 (c.version:Int)):=(HB.out.cell 6).trans V6.out
 obtain⟨nn,enn⟩:∃nn,m.x.objs.length=nn:=⟨_,rfl⟩
 have ENN:=Lh enn
 have hnn:nn≤16777216:=by rw [← enn];exact HM1.out.inn.wf.ol
 have HLN:=Lh (show m.os.length=nn from by rw [← enn];exact HM1.out.inn.olen)
 clear enn
 have g8:w1.cell? ⟨g,8,none⟩=some (.slice m.OA nn m.oc):=(HM1.out.blk.cell 8).trans (by rw [← ENN.out];rfl)
 have HRD:=Lh (show Reads w1 w1.heap.size 7 m.OA nn (m.os.flatMap omCs) from by have:=HM1.out.inn.rows.objs.rd;unfold MM.objs at this;rw [ENN.out] at this;exact this)
 have HIX:=Lh (index_any m.OA nn m.oc m.os b0 c.version w1 HRD HLN (by omega) (Lh c6))
 clear c6
 go_wp2_with fail
 refine HIX.out.mono ?_
 rintro e w2 ⟨hcase,hb2⟩
 have HB2:=Lh hb2
 clear hb2 HIX
 rcases hcase with ⟨i,hi,rfl,hv,hj⟩ | ⟨rfl,hj⟩
 · have hff:m.x.objs.find? (fun o=>o.version == c.version)=some m.os[i].x:=by rw [← HM1.out.inn.os];exact find_first hi hv hj
   have hmem:m.os[i] ∈ m.os:=List.getElem_mem hi
   have hin:i<nn:=by rw [← HLN.out];exact hi
   obtain⟨ad,ead,adb,acc⟩:=elem_cells (cells:=omCs) (K:=7) (fun _=>rfl) HRD.out hi (by omega)
   obtain⟨o,eo⟩:∃o,m.os[i]=o:=⟨_,rfl⟩
   rw [eo] at hff hmem acc
   have HF:=Lh hff
   have HME:=Lh hmem
   have ACC:=Lh acc
   have ADB:=Lh adb
   rw [ead] at g8
   have EAD:=Lh ead
   clear hff hmem acc adb ead eo hi hv hj
   have g8:=cell_later HB2.out g8
   have c7:=cell_later HB2.out ((HB.out.cell 7).trans V7.out)
   have g5:w2.cell? ⟨g,5,none⟩=some (.int .u64 (m.x.nep:Int)):=cell_later HB2.out (HM1.out.blk.cell 5)
   have o5:w2.cell? ((ad.add (i*7)).add 5)=some (.int .u64 (o.x.epoch:Int)):=(HB2.out.cell (p:=(ad.add (i*7)).add 5) (by rw [block_of_add,block_of_add];exact ADB.out)).trans (ACC.out 5 _ rfl)
   have d0:decide ((i:Int)<0)=false:=decide_eq_false (by omega)
   obtain⟨b1,e1⟩:∃b1,decide (c.epoch=m.x.nep)=b1:=⟨_,rfl⟩
   have n1:((c.epoch:Int) != (m.x.nep:Int)) = !b1:=by rw [bne,int_beq,← e1];by_cases h:c.epoch=m.x.nep <;> simp [h]
   have n1b:((c.epoch:Int) == (m.x.nep:Int))=b1:=by rw [int_beq,← e1];by_cases h:c.epoch=m.x.nep <;> simp [h]
   obtain⟨b2,e2⟩:∃b2,decide (o.x.epoch=c.epoch)=b2:=⟨_,rfl⟩
   have n2:((o.x.epoch:Int) == (c.epoch:Int))=b2:=by rw [int_beq,← e2];by_cases h:o.x.epoch=c.epoch <;> simp [h]
   have E1:=Lh e1
   have E2:=Lh e2
   clear e1 e2
   go_upto_region 2 with (fail)
   refine wp_region_class (fun w'=>Hid (Below w2.heap.size w2 w'∧w'.cell? ⟨b0,7,none⟩=some (.int .u64 (c.epoch:Int))∧w'.cell? ⟨g,5,none⟩=some (.int .u64 (m.x.nep:Int))∧w'.cell? ⟨g,8,none⟩=some (.slice (some ad) nn m.oc)∧w'.cell? ((ad.add (i*7)).add 5)=some (.int .u64 (o.x.epoch:Int)))) (by kernel_rfl) (by kernel_rfl) (Lh ⟨(Below.refl _ _).drew,c7,g5,g8,o5⟩) ?_
   rcases (show b1=false∨(b1=true∧b2=true)∨(b1=true∧b2=false) from by cases b1 <;> cases b2 <;> simp) with rfl | ⟨rfl,rfl⟩ | ⟨rfl,rfl⟩
   · simp only [Bool.not_false] at n1
     repeat (first
      | go_big_quiet_skip
      | (go_big_quiet_want;go_big_quiet_op;first
          | go_big_quiet_on
          | (refine⟨_,fun _ _=>rfl,?_⟩;go_big_quiet_on)
          | (refine⟨.int .u64 (c.epoch:Int),fun w' hw'=>?_,?_⟩
             · simp [hw'.out.2.1]
               done
             go_big_quiet_on)
          | (refine⟨.int .u64 (m.x.nep:Int),fun w' hw'=>?_,?_⟩
             · simp [hw'.out.2.2.1]
               done
             go_big_quiet_on)
          | (refine⟨.slice (some ad) nn m.oc,fun w' hw'=>?_,?_⟩
             · simp [hw'.out.2.2.2.1]
               done
             go_big_quiet_on)
          | (refine⟨.int .u64 (o.x.epoch:Int),fun w' hw'=>?_,?_⟩
             · simp [hw'.out.2.2.2.2]
               done
             go_big_quiet_on)))
     refine wpQuiet_nil ?_
     intro w3 hw3
     have HB3:=Lh (HB2.out.trans (hw3.out.1.mono HB2.out.size))
     clear hw3
     go_wp2_with (first
      | (go_at_call 19;refine (when_any _ _).mono ?_;rintro e w10 ⟨rfl,hb10⟩;have HB10:=Lh hb10;clear hb10)
      | (refine wpl_store_blk rfl 39 (.tmp 4) _ rfl (b0+1) 39 rZ _ rfl rfl (HRB.out.below (HB3.out.trans (HB10.out.mono HB3.out.size)) HRB.out.lt) rfl Tryz.szR rfl ?_;intro w11 hB11 hO11))
     have HB13:=Lh (HB3.out.trans (HB10.out.mono HB3.out.size))
     have HMF:=HM1.out.later HB13.out
     rw [← EGG.out] at HMF
     have HTF:=TurnM.mk (gb_fresh (gb_trans (gb_below HB0.out (some g)) (gb_below HB13.out _)) hO11.out (by rw [E0.out];omega)) (HMF.sub hO11.out (by have:=HGL.out;omega) HGG.out) rfl
     refine bodyPost_ret (res_c Tryz.results25 rfl (load_blk hB11.out Tryz.underlying39 rfl Tryz.szR)) rfl ?_
     refine ret_eq ?_ (RetRes.code rfl rfl HTF)
     show (m.x,whenC false)=movedM plF m.x c
     unfold movedM
     rw [HF.out]
     simp only []
     rw [if_neg (fun h=>by have:=E1.out;rw [decide_eq_false_iff_not] at this;exact this h.1)]
   · simp only [Bool.not_true] at n1
     repeat (first
      | go_big_quiet_skip
      | (go_big_quiet_want;go_big_quiet_op;first
          | go_big_quiet_on
          | (refine⟨_,fun _ _=>rfl,?_⟩;go_big_quiet_on)
          | (refine⟨.int .u64 (c.epoch:Int),fun w' hw'=>?_,?_⟩
             · simp [hw'.out.2.1]
               done
             go_big_quiet_on)
          | (refine⟨.int .u64 (m.x.nep:Int),fun w' hw'=>?_,?_⟩
             · simp [hw'.out.2.2.1]
               done
             go_big_quiet_on)
          | (refine⟨.slice (some ad) nn m.oc,fun w' hw'=>?_,?_⟩
             · simp [hw'.out.2.2.2.1]
               done
             go_big_quiet_on)
          | (refine⟨.int .u64 (o.x.epoch:Int),fun w' hw'=>?_,?_⟩
             · simp [hw'.out.2.2.2.2]
               done
             go_big_quiet_on)))
     refine wpQuiet_nil ?_
     intro w3 hw3
     have HB3:=Lh (HB2.out.trans (hw3.out.1.mono HB2.out.size))
     clear hw3
     go_wp2_with (first
      | (go_at_call 19;refine (when_any _ _).mono ?_;rintro e w10 ⟨rfl,hb10⟩;have HB10:=Lh hb10;clear hb10)
      | (refine wpl_store_blk rfl 39 (.tmp 4) _ rfl (b0+1) 39 rZ _ rfl rfl (HRB.out.below (HB3.out.trans (HB10.out.mono HB3.out.size)) HRB.out.lt) rfl Tryz.szR rfl ?_;intro w11 hB11 hO11))
     have HB13:=Lh (HB3.out.trans (HB10.out.mono HB3.out.size))
     have HMF:=HM1.out.later HB13.out
     rw [← EGG.out] at HMF
     have HTF:=TurnM.mk (gb_fresh (gb_trans (gb_below HB0.out (some g)) (gb_below HB13.out _)) hO11.out (by rw [E0.out];omega)) (HMF.sub hO11.out (by have:=HGL.out;omega) HGG.out) rfl
     refine bodyPost_ret (res_c Tryz.results25 rfl (load_blk hB11.out Tryz.underlying39 rfl Tryz.szR)) rfl ?_
     refine ret_eq ?_ (RetRes.code rfl rfl HTF)
     show (m.x,whenC false)=movedM plF m.x c
     unfold movedM
     rw [HF.out]
     simp only []
     rw [if_neg (fun h=>h.2 (of_decide_eq_true E2.out))]
   · simp only [Bool.not_true] at n1
     repeat (first
      | go_big_quiet_skip
      | (go_big_quiet_want;go_big_quiet_op;first
          | go_big_quiet_on
          | (refine⟨_,fun _ _=>rfl,?_⟩;go_big_quiet_on)
          | (refine⟨.int .u64 (c.epoch:Int),fun w' hw'=>?_,?_⟩
             · simp [hw'.out.2.1]
               done
             go_big_quiet_on)
          | (refine⟨.int .u64 (m.x.nep:Int),fun w' hw'=>?_,?_⟩
             · simp [hw'.out.2.2.1]
               done
             go_big_quiet_on)
          | (refine⟨.slice (some ad) nn m.oc,fun w' hw'=>?_,?_⟩
             · simp [hw'.out.2.2.2.1]
               done
             go_big_quiet_on)
          | (refine⟨.int .u64 (o.x.epoch:Int),fun w' hw'=>?_,?_⟩
             · simp [hw'.out.2.2.2.2]
               done
             go_big_quiet_on)))
     refine wpQuiet_nil ?_
     intro w3 hw3
     have HB3:=Lh (HB2.out.trans (hw3.out.1.mono HB2.out.size))
     clear hw3
     clear c7 g5 o5 n1 n1b n2
     have HM3:=Lh (HM1.out.later HB3.out)
     have HB3c:=Lh (HB.out.below HB3.out HB.out.lt)
     have HR3:=Lh (HRB.out.below HB3.out HRB.out.lt)
     have HA3:=Lh (fun j v hv=>(HB3.out.cell (p:=(ad.add (i*7)).add j) (by rw [block_of_add,block_of_add];exact ADB.out)).trans (ACC.out j v hv))
     have g8:w3.cell? ⟨g,8,none⟩=some (.slice (some ad) nn m.oc):=(HM3.out.blk.cell 8).trans (by rw [← ENN.out,← EAD.out];rfl)
     go_upto_region 5 with (first
      | (refine wpl_load_at rfl 58 (.tmp 48) rfl (ad.add (i*7)) (omCs o) _ rfl HA3.out Tryz.underlying58 rfl rfl ?_)
      | (refine wpl_store_blk rfl 58 (.tmp 6) (.tmp 49) rfl w3.heap.size 58 oZ (oA o) rfl rfl (Blk.new w3 _ _) rfl Tryz.szObj rfl ?_;intro w4 hB4 hO4))
     have HB34:=Lh (show Below w3.heap.size w3 w4 from ((Below.refl _ _).alloc (Nat.le_refl _) _).trans (hO4.out.below (Nat.le_refl _)))
     have HT4:=Lh hB4.out
     obtain⟨b6,e6⟩:∃b6,w3.heap.size=b6:=⟨_,rfl⟩
     have H6N:=Lh (show g≠b6 from by have:=HM3.out.lt g HM3.out.mem;omega)
     have H6B:=Lh (show b0+1<b6 from by have:=HR3.out.lt;omega)
     have H60:=Lh (show w.heap.size≤b6 from by have:=HR3.out.lt;have:=E0.out;omega)
     have HM4:=Lh (HM3.out.add HB34.out (k:=b6) (Nat.le_of_eq e6) (by rw [← e6];exact HT4.out.lt))
     have HB4:=Lh (HB3c.out.below HB34.out HB3c.out.lt)
     have HR4:=Lh (HR3.out.below HB34.out HR3.out.lt)
     have HG4:=Lh (gb_trans (gb_below HB0.out (some g)) (gb_below (HB3.out.trans (HB34.out.mono HB3.out.size)) _))
     rw [e6] at HT4 ⊢
     clear hB4 hO4 e6 g8 HB3c HR3 HA3 HB34
     have HON:=Lh (ok.out.no o.x (obj_mem HM1.out.inn HME.out))
     have HWL:=Lh ok.out.wl
     go_wp2_with (first
      | (refine wpl_load_blk rfl 58 (.tmp 6) rfl b6 58 (oA o) _ rfl HT4.out Tryz.underlying58 rfl Tryz.szObj ?_)
      | fail)
     refine (waste_any (b6 :: GG) g m o _ HM4 (Lh (HM4.out.inn.rows.os o HME.out)) (Lh ((HM4.out.off g HM4.out.mem).os o HME.out)) HON.out (Lh ok.out.rw) (by have:=HON.out;have:=HWL.out;omega)).mono ?_
     rintro e w5 ⟨rfl,hgb,AW,cW,hm5⟩
     have HM5:=Lh hm5
     have HT5:=Lh (HT4.out.gb hgb (Ne.symm H6N.out))
     have HB5:=Lh (HB4.out.gb hgb (Nat.ne_of_gt HGL.out))
     have HR5:=Lh (HR4.out.gb hgb (by have:=HGL.out;omega))
     have HG5:=Lh (gb_trans HG4.out hgb)
     clear hgb hm5 HT4 HB4 HR4 HM4 HG4
     obtain⟨m5,em5⟩:∃m5,m.setW (wasteF m.x.wass o.x) AW cW=m5:=⟨_,rfl⟩
     have HX5:=Lh (show m5.x={ m.x with wass:=wasteF m.x.wass o.x } from by rw [← em5];rfl)
     have HOS5:=Lh (show m5.os=m.os from by rw [← em5];rfl)
     rw [em5] at HM5
     clear em5
     go_upto_region 6 with (fail)
     have c7:=(HB5.out.cell 7).trans V7.out
     have k4:=HT5.out.cell 4
     rw [show (oA o)[4]?=some (.int .i64 o.x.group) from rfl] at k4
     have HND:=Lh (fun W (h:Below w5.heap.size w5 W)=>nodes_of m5 o.x.group W (Lh (HM5.out.inn.later h)) (by rw [HX5.out];exact h64.out))
     rw [show plF.nds m5.x.next o.x.group m5.x.n=plF.nds m.x.next o.x.group m.x.n from by rw [HX5.out];rfl] at HND
     have HGB:=Lh HM5.out.blk
     obtain⟨mcs,emcs⟩:∃mcs,m5.cs=mcs:=⟨_,rfl⟩
     have EMZ:=Lh (show mcs.size=14 from by rw [← emcs];rfl)
     rw [emcs] at HND HGB
     clear emcs
     refine wp_region_late (S0:=fun w'=>w'.cell? ⟨b0,7,none⟩=some (.int .u64 (c.epoch:Int))∧w'.cell? ⟨b6,4,none⟩=some (.int .i64 o.x.group)∧Blk w' g 72 mcs) (S:=fun _=>True) 12 13 (by kernel_rfl) rfl ⟨⟨c7,k4,HGB.out.drew⟩,trivial⟩ (fun wd hwd hH=>?_)
     have DW:=Lh (show Below w5.heap.size w5 wd from by rw [hwd];exact (Below.refl _ _).drew)
     clear hwd
     refine tS 0 rfl ?_ hH ?_ ?_
     rotate_left
     · (intro wx hx;obtain⟨_,_,_⟩:=hx;go_simp <;> with_reducible rfl)
     try simp only [Act.put,pA9,pZ9,pS9]
     refine tS 1 rfl ?_ hH ?_ ?_
     rotate_left
     · (intro wx hx;obtain⟨_,_,_⟩:=hx;go_simp <;> with_reducible rfl)
     try simp only [Act.put,pA9,pZ9,pS9]
     refine tS 2 rfl ?_ hH ?_ ?_
     rotate_left
     · (intro wx hx;obtain⟨_,_,_⟩:=hx;go_simp <;> with_reducible rfl)
     try simp only [Act.put,pA9,pZ9,pS9]
     refine tS 3 rfl ?_ hH ?_ ?_
     rotate_left
     · (intro wx hx;obtain⟨_,_,_⟩:=hx;go_simp <;> with_reducible rfl)
     try simp only [Act.put,pA9,pZ9,pS9]
     refine tS 4 rfl ?_ hH ?_ ?_
     rotate_left
     · (intro wx hx;obtain⟨_,_,_⟩:=hx;go_simp <;> with_reducible rfl)
     try simp only [Act.put,pA9,pZ9,pS9]
     refine wpAnyT_stay 5 rfl (by kernel_rfl) (fun _ _ _ h=>h) (yields_load_blk rfl 34 (.tmp 57) rfl g 72 mcs _ rfl (fun w' hw'=>hw'.2.2) Tryz.underlying34 rfl (by rw [EMZ.out];exact Tryz.szSt)) ⟨hH.1,fun _=>hH.2⟩ ?_
     try simp only [Act.put,pA9,pZ9,pS9]
     refine tS 6 rfl ?_ hH ?_ ?_
     rotate_left
     · (intro wx hx;obtain⟨_,_,_⟩:=hx;go_simp <;> with_reducible rfl)
     try simp only [Act.put,pA9,pZ9,pS9]
     refine tS 7 rfl ?_ hH ?_ ?_
     rotate_left
     · (intro wx hx;obtain⟨_,_,_⟩:=hx;go_simp <;> with_reducible rfl)
     try simp only [Act.put,pA9,pZ9,pS9]
     refine tS 9 rfl ?_ hH ?_ ?_
     rotate_left
     · (intro wx hx;obtain⟨_,_,_⟩:=hx;go_simp <;> with_reducible rfl)
     try simp only [Act.put,pA9,pZ9,pS9]
     refine wpAnyT_one 8 rfl (by kernel_rfl) (fun K hQ=>?_)
     go_simp
     (go_at_call 52;refine (HND.out wd DW.out).mono ?_;rintro e w6 ⟨v9,rfl,ho9,hb9⟩)
     obtain⟨A9,c9,rfl,_,_⟩:=own_slice ho9
     have HO9:=Lh (rowIn_own ho9)
     have HB9:=Lh hb9
     have HT6:=Lh (HT5.out.below (DW.out.trans (hb9.mono DW.out.size)) HT5.out.lt)
     have z5:=HT6.out.cell 5
     have y5:=HT6.out.frozen 5
     have z6:=HT6.out.cell 6
     have y6:=HT6.out.frozen 6
     rw [show (oA o)[5]?=some (.int .u64 (o.x.epoch:Int)) from rfl] at z5
     rw [show (oA o)[6]?=some (.slice o.A o.x.nodes.length o.c) from rfl] at z6
     clear ho9 hb9
     refine hQ.out _ _ ?_ (fun hH8=>?_)
     · exact⟨⟨cell_later HB9.out hH.1.1,cell_later HB9.out hH.1.2.1,hH.1.2.2.below HB9.out hH.1.2.2.lt⟩,trivial⟩
     clear hQ K
     try simp only [Act.put,pA9,pZ9,pS9]
     refine wpAnyT_one 10 rfl (by kernel_rfl) (fun K hQ=>?_)
     go_simp
     refine hQ.out _ _ ?_ (fun hH10=>?_)
     · exact⟨⟨far_cell (by have:=H6B.out;omega) (cell_later HB9.out hH.1.1),(cell6 _ (by decide)).trans (cell_later HB9.out hH.1.2.1),(hH.1.2.2.below HB9.out hH.1.2.2.lt).far H6N.out _⟩,trivial⟩
     clear hQ K
     try simp only [Act.put,pA9,pZ9,pS9]
     refine tS 11 rfl ?_ hH10 ?_ ?_
     rotate_left
     · (intro wx hx;obtain⟨_,_,_⟩:=hx;go_simp <;> with_reducible rfl)
     try simp only [Act.put,pA9,pZ9,pS9]
     refine wpAnyT_last 12 rfl (by kernel_rfl) (by decide) (fun K hQ=>?_)
     go_simp
     refine hQ.out _ _ ?_ (fun hH12=>?_)
     · exact⟨far_cell (by have:=H6B.out;omega) (far_cell (by have:=H6B.out;omega) (cell_later HB9.out hH.1.1)),(cell6 _ (by decide)).trans ((cell6 _ (by decide)).trans (cell_later HB9.out hH.1.2.1)),((hH.1.2.2.below HB9.out hH.1.2.2.lt).far H6N.out _).far H6N.out _⟩
     clear hQ K
     try simp only [Act.put,pA9,pZ9,pS9]
     refine wpAnyT_done (by kernel_rfl) ?_ _
     have hw7:=(HT6.out.set_ 5 (.int .u64 (c.epoch:Int))).set_ 6 (.slice A9 (plF.nds m.x.next o.x.group m.x.n).length c9)
     have ho7:=(Only.set_ w6 b6 5 (.int .u64 (c.epoch:Int))).trans (Only.set_ _ b6 6 (.slice A9 (plF.nds m.x.next o.x.group m.x.n).length c9))
     obtain⟨w7,ew7⟩:∃w7,(w6.setCell ⟨b6,5,none⟩ (.int .u64 (c.epoch:Int))).setCell ⟨b6,6,none⟩ (.slice A9 (plF.nds m.x.next o.x.group m.x.n).length c9)=w7:=⟨_,rfl⟩
     rw [ew7] at hw7 ho7 ⊢
     clear hH hH8 hH10 hH12 z5 y5 z6 y6 c7 k4 HND HGB EMZ ew7
     have hb56:=DW.out.trans (HB9.out.mono DW.out.size)
     have HT7:Hid (Blk w7 b6 58 (oA (⟨⟨o.x.key,o.x.version,o.x.size,o.x.sum,o.x.group,c.epoch,plF.nds m.x.next o.x.group m.x.n⟩,A9,c9⟩:OM))):=Lh hw7
     have HM7:=Lh ((HM5.out.later hb56).only ho7 List.mem_cons_self H6N.out)
     have HB7:=Lh (ho7.blk (HB5.out.below hb56 HB5.out.lt) (by have:=H6B.out;omega))
     have HR7:=Lh (ho7.blk (HR5.out.below hb56 HR5.out.lt) (by have:=H6B.out;omega))
     have HG7:=Lh (gb_fresh (gb_trans HG5.out (gb_below hb56 _)) ho7 H60.out)
     have HRW7:=Lh (HO9.out.1.grown (HO9.out.2 _ (Nat.lt_of_lt_of_le HT5.out.lt DW.out.size)) (gb_only ho7))
     have HOF7:=Lh (fun k (hk:k ∈ b6 :: GG)=>HO9.out.2 k (Nat.lt_of_lt_of_le (HM5.out.lt k hk) DW.out.size))
     clear DW HB9 HO9 HT6 HT5 HB5 HR5 HM5 HG5
     have HKB:=Lh (HM1.out.inn.okeys o HME.out)
     have HK7:=Lh HM7.out.inn.okeys
     have HRO7:=Lh (show Ris bytO ObjT.key m5.x.objs from by rw [HX5.out];exact ok.out.ro)
     have HOL7:=Lh (show m5.x.objs.length+1≤16777216 from by rw [HX5.out];exact ok.out.ol)
     obtain⟨ob,eon⟩:∃ob,(⟨⟨o.x.key,o.x.version,o.x.size,o.x.sum,o.x.group,c.epoch,plF.nds m.x.next o.x.group m.x.n⟩,A9,c9⟩:OM)=ob:=⟨_,rfl⟩
     have EON:=Lh eon
     have HKE:=Lh (show ob.x.key=o.x.key from by rw [← eon])
     have HIN:=Lh (show (oRow ob).In w7∧∀k ∈ b6 :: GG,(oRow ob).Off k from by rw [← eon];exact⟨HRW7.out,HOF7.out⟩)
     rw [eon] at HT7
     have OC0:=Lh (show (oA ob)[0]?=some (.string (strOf o.x.key)) from by rw [← HKE.out];rfl)
     obtain⟨G7,eG7⟩:∃G7,b6 :: GG=G7:=⟨_,rfl⟩
     have EG7:=Lh eG7
     rw [eG7] at HM7 HIN
     clear eon eG7 HRW7 HOF7 hw7 ho7
     go_upto_region 7 with (fail)
     obtain⟨nq,enn⟩:∃nq,m5.x.objs.length=nq:=⟨_,rfl⟩
     have ENN:=Lh enn
     have hnn:nq≤16777216:=by rw [← enn];exact HM7.out.inn.wf.ol
     have HLN:=Lh (show (m5.os).length=nq from by rw [← enn];exact HM7.out.inn.olen)
     clear enn
     refine wp_region_late (S0:=fun w'=>Blk w' b6 58 (oA ob)∧w'.cell? ⟨b6,0,none⟩=some (.string (strOf o.x.key))) (S:=fun w'=>w'.cell? ⟨g,8,none⟩=some (.slice m5.OA nq m5.oc)) 14 15 (by kernel_rfl) rfl ⟨⟨HT7.out.drew,(HT7.out.cell 0).trans OC0.out⟩,(HM7.out.blk.cell 8).trans (by rw [← ENN.out];rfl)⟩ (fun wd hwd hH=>?_)
     have DW:=Lh (show Below w7.heap.size w7 wd from by rw [hwd];exact (Below.refl _ _).drew)
     clear hwd
     have HMd:=Lh (HM7.out.later DW.out)
     have HT7d:=Lh (HT7.out.below DW.out HT7.out.lt)
     refine tS 0 rfl ?_ hH ?_ ?_
     rotate_left
     · (intro wx hx;obtain⟨_,_⟩:=hx;go_simp <;> with_reducible rfl)
     try simp only [Act.put,pA9,pZ9,pS9]
     refine tS 1 rfl ?_ hH ?_ ?_
     rotate_left
     · (intro wx hx;obtain⟨_,_⟩:=hx;go_simp <;> with_reducible rfl)
     try simp only [Act.put,pA9,pZ9,pS9]
     refine tS 2 rfl ?_ hH ?_ ?_
     rotate_left
     · (intro wx hx;obtain⟨_,_⟩:=hx;go_simp <;> with_reducible rfl)
     try simp only [Act.put,pA9,pZ9,pS9]
     refine tS 3 rfl ?_ hH ?_ ?_
     rotate_left
     · (intro wx hx;obtain⟨_,_⟩:=hx;go_simp <;> with_reducible rfl)
     try simp only [Act.put,pA9,pZ9,pS9]
     refine tS 4 rfl ?_ hH ?_ ?_
     rotate_left
     · (intro wx hx;obtain⟨_,_⟩:=hx;go_simp <;> with_reducible rfl)
     try simp only [Act.put,pA9,pZ9,pS9]
     refine wpAnyT_take 5 (v:=?_) rfl (by kernel_rfl) (fun _ _ _ h=>h) (Or.inl ⟨by rfl,?_⟩) hH ?_
     rotate_left
     · (intro wx hx;go_simp <;> with_reducible rfl)
     try simp only [Act.put,pA9,pZ9,pS9]
     refine wpAnyT_stay 6 rfl (by kernel_rfl) (fun _ _ _ h=>h) (yields_load_blk rfl 58 (.tmp 6) rfl b6 58 (oA ob) _ rfl (fun w' hw'=>hw'.1) Tryz.underlying58 rfl Tryz.szObj) ⟨hH.1,fun _=>hH.2⟩ ?_
     try simp only [Act.put,pA9,pZ9,pS9]
     refine tS 7 rfl ?_ hH ?_ ?_
     rotate_left
     · (intro wx hx;obtain⟨_,_⟩:=hx;go_simp <;> with_reducible rfl)
     try simp only [Act.put,pA9,pZ9,pS9]
     refine tS 8 rfl ?_ hH ?_ ?_
     rotate_left
     · (intro wx hx;obtain⟨_,_⟩:=hx;go_simp <;> with_reducible rfl)
     try simp only [Act.put,pA9,pZ9,pS9]
     refine wpAnyT_one 9 rfl (by kernel_rfl) (fun K hQ=>?_)
     go_simp
     (go_at_call 33;refine (mkObj (o.x.key) _).mono ?_;rintro e w8 ⟨rfl,hc8,hb8⟩)
     have HC8:=Lh hc8
     have HB8:=Lh hb8
     have HM8:=Lh (HMd.out.later hb8)
     clear hc8 hb8
     refine hQ.out _ _ ?_ (fun hH9=>?_)
     · exact⟨⟨HT7d.out.below HB8.out HT7d.out.lt,((HT7d.out.below HB8.out HT7d.out.lt).cell 0).trans OC0.out⟩,(HM8.out.blk.cell 8).trans (by rw [← ENN.out];rfl)⟩
     clear hQ K
     try simp only [Act.put,pA9,pZ9,pS9]
     refine wpAnyT_one 10 rfl (by kernel_rfl) (fun K hQ=>?_)
     go_simp
     (go_at_call 59;refine (putObj m5.OA nq m5.oc m5.os (ob) wd.heap.size (o.x.key) _ (Lh (by have:=HM8.out.inn.rows.objs.rd;unfold MM.objs at this;rw [ENN.out] at this;exact this)) (Lh HLN.out) (by omega) HC8 HK7 HKB.out).mono ?_;rintro e w9 ⟨v9,rfl,ho9,hb9⟩)
     obtain⟨A9,c9,rfl,h91,h92⟩:=own_slice ho9
     have HO9:=Lh (rowIn_own ho9)
     have HM9:=Lh (HM8.out.later hb9)
     have HB89:=Lh (HB8.out.trans (hb9.mono HB8.out.size))
     have z0:w9.cell? ⟨g,8,none⟩=some (.slice m5.OA nq m5.oc):=(HM9.out.blk.cell 8).trans (by rw [← ENN.out];rfl)
     have z1:w9.frozen? ⟨g,8,none⟩=false:=HM9.out.blk.frozen 8
     clear ho9 hb9
     refine hQ.out _ _ ?_ (fun hH10=>?_)
     · exact⟨⟨HT7d.out.below HB89.out HT7d.out.lt,((HT7d.out.below HB89.out HT7d.out.lt).cell 0).trans OC0.out⟩,z0⟩
     clear hQ K
     try simp only [Act.put,pA9,pZ9,pS9]
     refine tS 11 rfl ?_ hH10 ?_ ?_
     rotate_left
     · (intro wx hx;obtain⟨_,_⟩:=hx;go_simp <;> with_reducible rfl)
     try simp only [Act.put,pA9,pZ9,pS9]
     refine tS 12 rfl ?_ hH10 ?_ ?_
     rotate_left
     · (intro wx hx;obtain⟨_,_⟩:=hx;go_simp <;> with_reducible rfl)
     try simp only [Act.put,pA9,pZ9,pS9]
     refine tS 13 rfl ?_ hH10 ?_ ?_
     rotate_left
     · (intro wx hx;obtain⟨_,_⟩:=hx;go_simp <;> with_reducible rfl)
     try simp only [Act.put,pA9,pZ9,pS9]
     refine wpAnyT_last 14 rfl (by kernel_rfl) (by decide) (fun K hQ=>?_)
     go_simp
     refine hQ.out _ _ ?_ (fun hH14=>?_)
     · exact⟨(HT7d.out.below HB89.out HT7d.out.lt).far (Ne.symm H6N.out) _,(((HT7d.out.below HB89.out HT7d.out.lt).far (Ne.symm H6N.out) _).cell 0).trans OC0.out⟩
     clear hQ K
     try simp only [Act.put,pA9,pZ9,pS9]
     refine wpAnyT_done (by kernel_rfl) ?_ _
     obtain⟨L9,eL9⟩:∃L,putB (fL (cmpObj (o.x.key)) m5.os) (ob) (m5.os)=L:=⟨_,rfl⟩
     have hsub:∀q ∈ L9,q=ob∨q ∈ m5.os:=fun q hq=>by rw [← eL9] at hq;exact mem_putB hq
     have hlen:L9.length≤nq+1:=by rw [← HLN.out,← eL9,putB_len];split <;> omega
     rw [eL9] at HO9 ⊢
     have SUB:=Lh hsub
     have LEN:=Lh hlen
     have EL9:=Lh eL9
     clear eL9 hsub hlen
     have GS:=Lh (HM9.out.blk.set_ 8 (.slice A9 L9.length c9))
     have OS:=Lh (Only.set_ w9 g 8 (.slice A9 L9.length c9))
     obtain⟨wx,hwx⟩:∃wx,w9.setCell ⟨g,8,none⟩ (.slice A9 L9.length c9)=wx:=⟨_,rfl⟩
     rw [hwx] at GS OS ⊢
     clear hwx z0 z1 hH hH9 hH10 hH14
     have hO9:∀q ∈ G7,(⟨7,A9,c9,L9.length,L9.flatMap omCs⟩:RowT).Off q:=fun q hq=>HO9.out.2 q (HM8.out.lt q hq)
     have hI9:(⟨7,A9,c9,L9.length,L9.flatMap omCs⟩:RowT).In w9:=HO9.out.1
     have HX:=Lh (HM9.out.setO (gb_only OS.out) GS.out (hI9.grown (hO9 g HM9.out.mem) (gb_only OS.out)) hO9 (by have:=LEN.out;have:=HOL7.out;have:=ENN.out;omega) (fun q hq=>by
      rcases SUB.out q hq with e | h
      · have h1:(oRow ob).In w9:=(HIN.out.1.later DW.out).later HB89.out
        rw [e]
        exact .inr ⟨h1.grown (HIN.out.2 g HM9.out.mem) (gb_only OS.out),HIN.out.2,by rw [HKE.out];exact HKB.out⟩
      · exact .inl h))
     have HGX:=Lh (gb_trans (gb_trans (gb_below DW.out (some g)) (gb_below HB89.out _)) (gb_only OS.out))
     have HLX:=Lh (show (L9.map (·.x))=putR bytO ObjT.key ob.x m5.x.objs from by rw [← EL9.out,← HKE.out];exact put_obj HM7.out.inn.os HRO7.out ob)
     have HR8:=Lh (HR7.out.gb HGX.out (by have:=HGL.out;omega))
     clear GS OS hI9 hO9 HO9 HMd HM8 HC8 HM9 HM7
     go_wp2_with (first
      | (go_at_call 19;refine (when_any _ _).mono ?_;rintro e w10 ⟨rfl,hb10⟩;have HB10:=Lh hb10;clear hb10)
      | (refine wpl_store_blk rfl 39 (.tmp 4) _ rfl (b0+1) 39 rZ _ rfl rfl (HR8.out.below HB10.out HR8.out.lt) rfl Tryz.szR rfl ?_;intro w11 hB11 hO11))
     have HMF:=(HX.out.later HB10.out).less (G:=GG) (fun k hk=>by rw [← EG7.out];exact List.mem_cons_of_mem _ hk) (by rw [← EGG.out];exact List.mem_cons_of_mem _ HGG.out)
     rw [← EGG.out] at HMF
     have HTF:=TurnM.mk (gb_fresh (gb_trans (gb_trans HG7.out HGX.out) (gb_below HB10.out _)) hO11.out (by rw [E0.out];omega)) (HMF.sub hO11.out (by have:=HGL.out;omega) HGG.out) rfl
     refine bodyPost_ret (res_c Tryz.results25 rfl (load_blk hB11.out Tryz.underlying39 rfl Tryz.szR)) rfl ?_
     refine ret_eq ?_ (RetRes.code rfl rfl HTF)
     show (({ m5.x with objs:=L9.map (·.x) }:MetT),whenC true)=movedM plF m.x c
     unfold movedM
     rw [HF.out]
     simp only []
     rw [if_pos ⟨of_decide_eq_true E1.out,of_decide_eq_false E2.out⟩,HLX.out,HX5.out,← EON.out]
 · have HF:=Lh (show m.x.objs.find? (fun o=>o.version == c.version)=none from by rw [← HM1.out.inn.os];exact first_none hj)
   clear hj g8
   have d0:decide ((-1:Int)<0)=true:=by decide
   go_upto_region 2 with (fail)
   refine wp_region_class (fun w'=>Hid (Below w2.heap.size w2 w'∧True)) (by kernel_rfl) (by kernel_rfl) (Lh ⟨(Below.refl _ _).drew,trivial⟩) ?_
   repeat (first
    | go_big_quiet_skip
    | (go_big_quiet_want;go_big_quiet_op;first
        | go_big_quiet_on
        | (refine⟨_,fun _ _=>rfl,?_⟩;go_big_quiet_on)))
   refine wpQuiet_nil ?_
   intro w3 hw3
   have HB3:=Lh (HB2.out.trans (hw3.out.1.mono HB2.out.size))
   clear hw3
   go_wp2_with (first
    | (go_at_call 19;refine (when_any _ _).mono ?_;rintro e w10 ⟨rfl,hb10⟩;have HB10:=Lh hb10;clear hb10)
    | (refine wpl_store_blk rfl 39 (.tmp 4) _ rfl (b0+1) 39 rZ _ rfl rfl (HRB.out.below (HB3.out.trans (HB10.out.mono HB3.out.size)) HRB.out.lt) rfl Tryz.szR rfl ?_;intro w11 hB11 hO11))
   have HB13:=Lh (HB3.out.trans (HB10.out.mono HB3.out.size))
   have HMF:=HM1.out.later HB13.out
   rw [← EGG.out] at HMF
   have HTF:=TurnM.mk (gb_fresh (gb_trans (gb_below HB0.out (some g)) (gb_below HB13.out _)) hO11.out (by rw [E0.out];omega)) (HMF.sub hO11.out (by have:=HGL.out;omega) HGG.out) rfl
   refine bodyPost_ret (res_c Tryz.results25 rfl (load_blk hB11.out Tryz.underlying39 rfl Tryz.szR)) rfl ?_
   refine ret_eq ?_ (RetRes.code rfl rfl HTF)
   show (m.x,whenC false)=movedM plF m.x c
   unfold movedM
   rw [HF.out]
end
end Go.Proofs.YtdoneomahlfkbaaGreat
