/- THE MACHINE: wastes that are gone, nodes that live. (printed by gen_meh5.py). (joined out of MeH5 by shake.py) -/
import Derived.Deep.Cut
import Derived.Deep.CutBlock
import Derived.Test.YtdoneomahlfkbaaGreatOnc09
import Derived.Test.YtdoneomahlfkbaaGreatOnc10
set_option linter.unusedVariables false
set_option linter.unusedSimpArgs false
set_option maxRecDepth 100000
set_option maxHeartbeats 8000000
namespace Go.Proofs.YtdoneomahlfkbaaGreat
section
open Go.RowKit OctMath
def rZ:Array Value:=#[.int .i64 0,.int .u64 0,.slice none 0 0,.int .u64 0]
def rcs (r:ResT) (A:Option Addr) (c:Nat):Array Value:=#[.int .i64 r.code,.int .u64 (r.version:Int),.slice A r.nodes.length c,.int .u64 (r.epoch:Int)]
theorem Tryz.szR:(Tryz.prog.info? 39).map (·.size)=some 4:=by kernel_rfl
theorem code_any (c:Int) (w:World):Calls Tryz.prog 49 #[.int .i64 c] w fun e w'=>e = .returned (.agg (rcs (resC c) none 0))∧Below w.heap.size w w':=by
 go_enter Tryz.func49,Tryz.ntmps49
 go_wp2_with (refine wpl_store_blk rfl 39 (.tmp 2) (.tmp 4) rfl w.heap.size 39 rZ (rcs (resC c) none 0) rfl rfl (Blk.new w _ _) rfl Tryz.szR rfl ?_;intro w1 hB hO)
 exact bodyPost_ret (v := .agg (rcs (resC c) none 0)) (res_c Tryz.results49 rfl (load_blk hB.out Tryz.underlying39 rfl Tryz.szR)) rfl ⟨rfl,((Below.refl _ _).alloc (Nat.le_refl _) _).trans (hO.out.below (Nat.le_refl _))⟩
theorem when_any (b:Bool) (w:World):Calls Tryz.prog 19 #[.bool b] w fun e w'=>e = .returned (.agg (rcs (whenC b) none 0))∧Below w.heap.size w w':=by
 have e1:=Lh (show rcs (whenC b) none 0=rcs (resC (if b then 1 else 3)) none 0 from rfl)
 cases b
 all_goals
  go_enter Tryz.func19,Tryz.ntmps19
  go_wp2_with (first
   | (go_at_call 49;refine (code_any _ _).mono ?_;rintro e w1 ⟨rfl,hb⟩;have HB:=Lh hb;clear hb)
   | (refine wpl_store_blk rfl 39 (.tmp 2) _ rfl w.heap.size 39 rZ _ rfl rfl ((Blk.new w _ _).below HB.out (by simp)) rfl Tryz.szR rfl ?_;intro w2 hB hO))
  exact bodyPost_ret (v := .agg (rcs (whenC _) none 0)) (res_c Tryz.results19 rfl (load_blk hB.out Tryz.underlying39 rfl Tryz.szR)) rfl ⟨rfl,(((Below.refl _ _).alloc (Nat.le_refl _) _).trans (HB.out.mono (by simp))).trans (hO.out.below (Nat.le_refl _))⟩
def RetRes (G:List Nat) (g:Nat) (p:MetT×ResT) (w:World) (e:Ending) (w':World):Prop:=(∃A c,e = .returned (.agg (rcs p.2 A c))∧(⟨1,A,c,p.2.nodes.length,p.2.nodes.map iv⟩:RowT).In w')∧TurnM G g p.1 w w'
theorem row_none (w:World):(⟨1,none,0,0,[]⟩:RowT).In w:=⟨Reads.none_,Nat.le_refl _,by show (0:Nat)≤maxLen;unfold maxLen;omega⟩
theorem ret_eq {G:List Nat} {g:Nat} {p q:MetT×ResT} {w w':World} {e:Ending} (h:p=q) (k:RetRes G g p w e w'):RetRes G g q w e w':=by rw [← h];exact k
theorem RetRes.code {G:List Nat} {g:Nat} {X:MetT} {r:ResT} {w w':World} {e:Ending} (he:e = .returned (.agg (rcs r none 0))) (hn:r.nodes=[]) (h:TurnM G g X w w'):RetRes G g (X,r) w e w' :=
 ⟨⟨none,0,he,by rw [hn];exact row_none w'⟩,h⟩
theorem gone_any (G:List Nat) (g:Nat) (m:MM) (c:CmdT) (CA:Option Addr) (cc:Nat) (w:World) (hM:Hid (MS G g m w)) (hR:Hid (Ris wasO (fun x=>x) m.x.wass)) :
 Calls Tryz.prog 27 #[.pointer (some ⟨g,0,none⟩),.agg (cmdCs c CA cc)] w (RetRes G g (goneM m.x c) w):=by
 obtain⟨cs,ecs⟩:∃cs,cmdCs c CA cc=cs:=⟨_,rfl⟩
 have V0:=Lh (show cs[0]?=some (.int .i64 c.kind) from by rw [← ecs];rfl)
 have V1:=Lh (show cs[1]?=some (.int .u64 (c.client:Int)) from by rw [← ecs];rfl)
 have V2:=Lh (show cs[2]?=some (.int .u64 (c.seq:Int)) from by rw [← ecs];rfl)
 have V3:=Lh (show cs[3]?=some (.string (strOf c.key)) from by rw [← ecs];rfl)
 have V4:=Lh (show cs[4]?=some (.int .i64 c.size) from by rw [← ecs];rfl)
 have V5:=Lh (show cs[5]?=some (.int .u32 (c.sum:Int)) from by rw [← ecs];rfl)
 have V6:=Lh (show cs[6]?=some (.int .u64 (c.version:Int)) from by rw [← ecs];rfl)
 have V7:=Lh (show cs[7]?=some (.int .u64 (c.epoch:Int)) from by rw [← ecs];rfl)
 have V8:=Lh (show cs[8]?=some (.int .i64 c.group) from by rw [← ecs];rfl)
 have V9:=Lh (show cs[9]?=some (.int .i64 c.node) from by rw [← ecs];rfl)
 have V10:=Lh (show cs[10]?=some (.bool c.up) from by rw [← ecs];rfl)
 have V11:=Lh (show cs[11]?=some (.int .u64 (c.id.ver:Int)) from by rw [← ecs];rfl)
 have V12:=Lh (show cs[12]?=some (.int .i64 c.id.idx) from by rw [← ecs];rfl)
 have V13:=Lh (show cs[13]?=some (.int .u64 (c.id.ep:Int)) from by rw [← ecs];rfl)
 have V14:=Lh (show cs[14]?=some (.int .u64 (c.mep:Int)) from by rw [← ecs];rfl)
 have V15:=Lh (show cs[15]?=some (.slice CA c.mem.length cc) from by rw [← ecs];rfl)
 have HCS:=Lh (show cs.size=16 from by rw [← ecs];rfl)
 have HCO:=Lh (show cs.toList.all (·.oneCell')=true from by rw [← ecs];rfl)
 rw [ecs]
 have ECS:=Lh ecs
 clear ecs
 have HGL:=Lh hM.out.blk.lt
 go_enter Tryz.func27,Tryz.ntmps27
 go_upto_region 1 with (fail)
 obtain⟨w1,ew1⟩:∃w1,(w.alloc (.cells cs 48)).alloc (.cells rZ 39)=w1:=⟨_,rfl⟩
 have hb0:Below w.heap.size w ((w.alloc (.cells cs 48)).alloc (.cells rZ 39)):=((Below.refl _ _).alloc (Nat.le_refl _) _).alloc (by simp) _
 have hB:=(Blk.new w 48 cs).alloc (.cells rZ 39)
 have hR:=Blk.new (w.alloc (.cells cs 48)) 39 rZ
 have hs1:(w.alloc (.cells cs 48)).heap.size=w.heap.size+1:=by simp
 rw [hs1] at hR
 rw [ew1] at hb0 hB hR
 have ew1':(w.alloc (.cells cs 48)).alloc (.cells #[.int .i64 0,.int .u64 0,.slice none 0 0,.int .u64 0] 39)=w1:=ew1
 rw [ew1']
 have HB0:=Lh hb0
 have HB:=Lh hB
 have HRB:=Lh hR
 have HM1:=Lh (hM.out.add hb0 (k:=w.heap.size+1) (by omega) hR.lt)
 have HGG:=Lh hM.out.mem
 clear hb0 hB hR hs1 ew1 ew1' hM
 obtain⟨b0,e0⟩:∃b0,w.heap.size=b0:=⟨_,rfl⟩
 have E0:=Lh e0
 rw [e0] at HB HRB HGL HM1 ⊢
 clear e0
 obtain⟨GG,eGG⟩:∃GG,(b0+1) :: G=GG:=⟨_,rfl⟩
 have EGG:=Lh eGG
 rw [eGG] at HM1
 clear eGG
 have z1:w1.cell? ⟨g,11,none⟩=some (.slice m.WA m.x.wass.length m.wc):=HM1.out.blk.cell 11
 go_wp2_with fail
 clear z1
 obtain⟨nn,enn⟩:∃nn,m.x.wass.length=nn:=⟨_,rfl⟩
 have ENN:=Lh enn
 have hnn:nn≤33554432:=by rw [← enn];exact HM1.out.inn.wf.wl
 have HLN:=Lh (show (m.x.wass).length=nn from by rw [← enn])
 clear enn
 refine wp_region_late (S0:=fun w'=>w'.cell? ⟨b0,9,none⟩=some (.int .i64 c.node)∧w'.cell? ⟨b0,11,none⟩=some (.int .u64 (c.id.ver:Int))∧w'.cell? ⟨b0,12,none⟩=some (.int .i64 c.id.idx)∧w'.cell? ⟨b0,13,none⟩=some (.int .u64 (c.id.ep:Int))) (S:=fun w'=>w'.cell? ⟨g,11,none⟩=some (.slice m.WA nn m.wc)) 16 17 (by kernel_rfl) rfl ⟨⟨(HB.out.cell 9).trans V9.out,(HB.out.cell 11).trans V11.out,(HB.out.cell 12).trans V12.out,(HB.out.cell 13).trans V13.out⟩,(HM1.out.blk.cell 11).trans (by rw [← ENN.out];rfl)⟩ (fun wd hwd hH=>?_)
 have DW:=Lh (show Below w1.heap.size w1 wd from by rw [hwd];exact (Below.refl _ _).drew)
 clear hwd
 have HMd:=Lh (HM1.out.later DW.out)
 have HBd:=Lh (HB.out.below DW.out HB.out.lt)
 refine tS 0 rfl ?_ hH ?_ ?_
 rotate_left
 · (intro wx hx;obtain⟨_,_,_,_⟩:=hx;go_simp <;> with_reducible rfl)
 try simp only [Act.put,pA9,pZ9,pS9]
 refine tS 1 rfl ?_ hH ?_ ?_
 rotate_left
 · (intro wx hx;obtain⟨_,_,_,_⟩:=hx;go_simp <;> with_reducible rfl)
 try simp only [Act.put,pA9,pZ9,pS9]
 refine tS 2 rfl ?_ hH ?_ ?_
 rotate_left
 · (intro wx hx;obtain⟨_,_,_,_⟩:=hx;go_simp <;> with_reducible rfl)
 try simp only [Act.put,pA9,pZ9,pS9]
 refine tS 3 rfl ?_ hH ?_ ?_
 rotate_left
 · (intro wx hx;obtain⟨_,_,_,_⟩:=hx;go_simp <;> with_reducible rfl)
 try simp only [Act.put,pA9,pZ9,pS9]
 refine tS 4 rfl ?_ hH ?_ ?_
 rotate_left
 · (intro wx hx;obtain⟨_,_,_,_⟩:=hx;go_simp <;> with_reducible rfl)
 try simp only [Act.put,pA9,pZ9,pS9]
 refine wpAnyT_take 5 (v:=?_) rfl (by kernel_rfl) (fun _ _ _ h=>h) (Or.inl ⟨by rfl,?_⟩) hH ?_
 rotate_left
 · (intro wx hx;go_simp <;> with_reducible rfl)
 try simp only [Act.put,pA9,pZ9,pS9]
 refine tS 6 rfl ?_ hH ?_ ?_
 rotate_left
 · (intro wx hx;obtain⟨_,_,_,_⟩:=hx;go_simp <;> with_reducible rfl)
 try simp only [Act.put,pA9,pZ9,pS9]
 refine tS 7 rfl ?_ hH ?_ ?_
 rotate_left
 · (intro wx hx;obtain⟨_,_,_,_⟩:=hx;go_simp <;> with_reducible rfl)
 try simp only [Act.put,pA9,pZ9,pS9]
 refine tS 8 rfl ?_ hH ?_ ?_
 rotate_left
 · (intro wx hx;obtain⟨_,_,_,_⟩:=hx;go_simp <;> with_reducible rfl)
 try simp only [Act.put,pA9,pZ9,pS9]
 refine tS 9 rfl ?_ hH ?_ ?_
 rotate_left
 · (intro wx hx;obtain⟨_,_,_,_⟩:=hx;go_simp <;> with_reducible rfl)
 try simp only [Act.put,pA9,pZ9,pS9]
 refine tS 10 rfl ?_ hH ?_ ?_
 rotate_left
 · (intro wx hx;obtain⟨_,_,_,_⟩:=hx;go_simp <;> with_reducible rfl)
 try simp only [Act.put,pA9,pZ9,pS9]
 refine wpAnyT_one 11 rfl (by kernel_rfl) (fun K hQ=>?_)
 go_simp
 (go_at_call 71;refine (mkWas (⟨c.id,c.node⟩) _).mono ?_;rintro e w8 ⟨rfl,hc8,hb8⟩)
 have HC8:=Lh hc8
 have HB8:=Lh hb8
 have HM8:=Lh (HMd.out.later hb8)
 clear hc8 hb8
 refine hQ.out _ _ ?_ (fun hH11=>?_)
 · exact⟨⟨((HBd.out.below HB8.out HBd.out.lt).cell 9).trans V9.out,((HBd.out.below HB8.out HBd.out.lt).cell 11).trans V11.out,((HBd.out.below HB8.out HBd.out.lt).cell 12).trans V12.out,((HBd.out.below HB8.out HBd.out.lt).cell 13).trans V13.out⟩,(HM8.out.blk.cell 11).trans (by rw [← ENN.out];rfl)⟩
 clear hQ K
 try simp only [Act.put,pA9,pZ9,pS9]
 refine wpAnyT_one 12 rfl (by kernel_rfl) (fun K hQ=>?_)
 go_simp
 (go_at_call 70;refine (dropWas m.WA nn m.wc m.x.wass wd.heap.size (⟨c.id,c.node⟩) _ (Lh (by have:=HM8.out.inn.rows.wass.rd;unfold MM.wass at this;rw [ENN.out] at this;exact this)) (Lh HLN.out) (by omega) HC8 (Lh fun _ _=>trivial) trivial (by have:=HM8.out.inn.rows.wass.nc;unfold MM.wass at this;rw [ENN.out] at this;exact this) HM8.out.inn.rows.wass.cm).mono ?_;rintro e w9 ⟨A9,c9,rfl,hr9,hn9,hm9,hb9,ho9⟩)
 have HR9:=Lh hr9
 have HO9:=Lh ho9
 have HN9:=Lh (And.intro hn9 hm9)
 have HM9:=Lh (HM8.out.later hb9)
 have HB89:=Lh (HB8.out.trans (hb9.mono HB8.out.size))
 have z0:w9.cell? ⟨g,11,none⟩=some (.slice m.WA nn m.wc):=(HM9.out.blk.cell 11).trans (by rw [← ENN.out];rfl)
 have z1:w9.frozen? ⟨g,11,none⟩=false:=HM9.out.blk.frozen 11
 clear hr9 ho9 hn9 hm9 hb9
 refine hQ.out _ _ ?_ (fun hH12=>?_)
 · exact⟨⟨((HBd.out.below HB89.out HBd.out.lt).cell 9).trans V9.out,((HBd.out.below HB89.out HBd.out.lt).cell 11).trans V11.out,((HBd.out.below HB89.out HBd.out.lt).cell 12).trans V12.out,((HBd.out.below HB89.out HBd.out.lt).cell 13).trans V13.out⟩,z0⟩
 clear hQ K
 try simp only [Act.put,pA9,pZ9,pS9]
 refine tS 13 rfl ?_ hH12 ?_ ?_
 rotate_left
 · (intro wx hx;obtain⟨_,_,_,_⟩:=hx;go_simp <;> with_reducible rfl)
 try simp only [Act.put,pA9,pZ9,pS9]
 refine tS 14 rfl ?_ hH12 ?_ ?_
 rotate_left
 · (intro wx hx;obtain⟨_,_,_,_⟩:=hx;go_simp <;> with_reducible rfl)
 try simp only [Act.put,pA9,pZ9,pS9]
 refine tS 15 rfl ?_ hH12 ?_ ?_
 rotate_left
 · (intro wx hx;obtain⟨_,_,_,_⟩:=hx;go_simp <;> with_reducible rfl)
 try simp only [Act.put,pA9,pZ9,pS9]
 refine wpAnyT_last 16 rfl (by kernel_rfl) (by decide) (fun K hQ=>?_)
 go_simp
 refine hQ.out _ _ ?_ (fun hH16=>?_)
 · exact⟨(((HBd.out.below HB89.out HBd.out.lt).far (Nat.ne_of_gt HGL.out) _).cell 9).trans V9.out,(((HBd.out.below HB89.out HBd.out.lt).far (Nat.ne_of_gt HGL.out) _).cell 11).trans V11.out,(((HBd.out.below HB89.out HBd.out.lt).far (Nat.ne_of_gt HGL.out) _).cell 12).trans V12.out,(((HBd.out.below HB89.out HBd.out.lt).far (Nat.ne_of_gt HGL.out) _).cell 13).trans V13.out⟩
 clear hQ K
 try simp only [Act.put,pA9,pZ9,pS9]
 refine wpAnyT_done (by kernel_rfl) ?_ _
 obtain⟨L9,eL9⟩:∃L,dropB (fL (cmpWas (⟨c.id,c.node⟩)) m.x.wass) (m.x.wass)=L:=⟨_,rfl⟩
 have hsub:∀i ∈ L9,i ∈ m.x.wass:=fun i hi=>by rw [← eL9] at hi;exact mem_dropB hi
 have hpos:0<L9.length→0<nn:=fun h=>by rw [← eL9] at h;have:=drop_pos h;rw [← HLN.out];exact this
 have hlen:L9.length≤nn:=by rw [← HLN.out,← eL9,dropB_len];split <;> omega
 rw [eL9] at HR9 HO9 HN9 ⊢
 have SUB:=Lh hsub
 have POS:=Lh hpos
 have LEN:=Lh hlen
 have EL9:=Lh eL9
 clear eL9 hsub hpos hlen
 have GS:=Lh (HM9.out.blk.set_ 11 (.slice A9 L9.length c9))
 have OS:=Lh (Only.set_ w9 g 11 (.slice A9 L9.length c9))
 obtain⟨wx,hwx⟩:∃wx,w9.setCell ⟨g,11,none⟩ (.slice A9 L9.length c9)=wx:=⟨_,rfl⟩
 rw [hwx] at GS OS ⊢
 clear hwx z0 z1 hH hH11 hH12 hH16
 have hO9:∀q ∈ GG,(⟨4,A9,c9,L9.length,L9.flatMap wasL⟩:RowT).Off q:=fun q hq=>off_drop (n:=nn) (by have:=(HMd.out.off q hq).wass;unfold MM.wass at this;rw [ENN.out] at this;exact this) POS.out (HM8.out.lt q hq) HO9.out
 have hI9:(⟨4,A9,c9,L9.length,L9.flatMap wasL⟩:RowT).In w9:=⟨HR9.out,HN9.out.1,HN9.out.2⟩
 have HX:=Lh (HM9.out.setW (gb_only OS.out) GS.out (hI9.grown (hO9 g HM9.out.mem) (gb_only OS.out)) hO9 (by have:=LEN.out;omega))
 have HGX:=Lh (gb_trans (gb_trans (gb_below DW.out (some g)) (gb_below HB89.out _)) (gb_only OS.out))
 have HEQ:=Lh (show L9=dropR wasO (fun x=>x) ⟨c.id,c.node⟩ m.x.wass from by rw [← EL9.out];exact dropB_eq (o:=wasO) (key:=fun x=>x) hR.out _)
 have HRX:=Lh (HRB.out.gb HGX.out (by have:=HGL.out;omega))
 have z2:wx.cell? ⟨g,11,none⟩=some (.slice A9 L9.length c9):=HX.out.blk.cell 11
 have hlx:L9.length≤33554432:=HX.out.inn.wf.wl
 go_wp2_with (first
  | (go_at_call 19;refine (when_any _ _).mono ?_;rintro e w10 ⟨rfl,hb10⟩;have HB10:=Lh hb10;clear hb10)
  | (refine wpl_store_blk rfl 39 (.tmp 4) _ rfl (b0+1) 39 rZ _ rfl rfl (HRX.out.below HB10.out HRX.out.lt) rfl Tryz.szR rfl ?_;intro w11 hB11 hO11))
 have HMF:=(HX.out.later HB10.out)
 rw [← EGG.out] at HMF
 have HTF:=TurnM.mk (gb_fresh (gb_trans (gb_trans (gb_below HB0.out (some g)) HGX.out) (gb_below HB10.out _)) hO11.out (by rw [E0.out];omega)) (HMF.sub hO11.out (by have:=HGL.out;omega) HGG.out) rfl
 refine bodyPost_ret (res_c Tryz.results27 rfl (load_blk hB11.out Tryz.underlying39 rfl Tryz.szR)) rfl ?_
 refine ret_eq ?_ (RetRes.code rfl rfl HTF)
 show (({ m.x with wass:=L9 }:MetT),whenC (decide (L9.length<m.x.wass.length)))=goneM m.x c
 unfold goneM
 rw [← HEQ.out]
theorem live_any (G:List Nat) (g:Nat) (m:MM) (c:CmdT) (CA:Option Addr) (cc:Nat) (w:World) (hM:Hid (MS G g m w)) (hR:Hid (Ris intO (fun x=>x) m.x.down)) (hl:m.x.down.length+1≤16777216) :
 Calls Tryz.prog 28 #[.pointer (some ⟨g,0,none⟩),.agg (cmdCs c CA cc)] w (RetRes G g (liveM m.x c) w):=by
 obtain⟨cs,ecs⟩:∃cs,cmdCs c CA cc=cs:=⟨_,rfl⟩
 have V0:=Lh (show cs[0]?=some (.int .i64 c.kind) from by rw [← ecs];rfl)
 have V1:=Lh (show cs[1]?=some (.int .u64 (c.client:Int)) from by rw [← ecs];rfl)
 have V2:=Lh (show cs[2]?=some (.int .u64 (c.seq:Int)) from by rw [← ecs];rfl)
 have V3:=Lh (show cs[3]?=some (.string (strOf c.key)) from by rw [← ecs];rfl)
 have V4:=Lh (show cs[4]?=some (.int .i64 c.size) from by rw [← ecs];rfl)
 have V5:=Lh (show cs[5]?=some (.int .u32 (c.sum:Int)) from by rw [← ecs];rfl)
 have V6:=Lh (show cs[6]?=some (.int .u64 (c.version:Int)) from by rw [← ecs];rfl)
 have V7:=Lh (show cs[7]?=some (.int .u64 (c.epoch:Int)) from by rw [← ecs];rfl)
 have V8:=Lh (show cs[8]?=some (.int .i64 c.group) from by rw [← ecs];rfl)
 have V9:=Lh (show cs[9]?=some (.int .i64 c.node) from by rw [← ecs];rfl)
 have V10:=Lh (show cs[10]?=some (.bool c.up) from by rw [← ecs];rfl)
 have V11:=Lh (show cs[11]?=some (.int .u64 (c.id.ver:Int)) from by rw [← ecs];rfl)
 have V12:=Lh (show cs[12]?=some (.int .i64 c.id.idx) from by rw [← ecs];rfl)
 have V13:=Lh (show cs[13]?=some (.int .u64 (c.id.ep:Int)) from by rw [← ecs];rfl)
 have V14:=Lh (show cs[14]?=some (.int .u64 (c.mep:Int)) from by rw [← ecs];rfl)
 have V15:=Lh (show cs[15]?=some (.slice CA c.mem.length cc) from by rw [← ecs];rfl)
 have HCS:=Lh (show cs.size=16 from by rw [← ecs];rfl)
 have HCO:=Lh (show cs.toList.all (·.oneCell')=true from by rw [← ecs];rfl)
 rw [ecs]
 have ECS:=Lh ecs
 clear ecs
 have HGL:=Lh hM.out.blk.lt
 go_enter Tryz.func28,Tryz.ntmps28
 go_upto_region 1 with (fail)
 obtain⟨w1,ew1⟩:∃w1,(w.alloc (.cells cs 48)).alloc (.cells rZ 39)=w1:=⟨_,rfl⟩
 have hb0:Below w.heap.size w ((w.alloc (.cells cs 48)).alloc (.cells rZ 39)):=((Below.refl _ _).alloc (Nat.le_refl _) _).alloc (by simp) _
 have hB:=(Blk.new w 48 cs).alloc (.cells rZ 39)
 have hR:=Blk.new (w.alloc (.cells cs 48)) 39 rZ
 have hs1:(w.alloc (.cells cs 48)).heap.size=w.heap.size+1:=by simp
 rw [hs1] at hR
 rw [ew1] at hb0 hB hR
 have ew1':(w.alloc (.cells cs 48)).alloc (.cells #[.int .i64 0,.int .u64 0,.slice none 0 0,.int .u64 0] 39)=w1:=ew1
 rw [ew1']
 have HB0:=Lh hb0
 have HB:=Lh hB
 have HRB:=Lh hR
 have HM1:=Lh (hM.out.add hb0 (k:=w.heap.size+1) (by omega) hR.lt)
 have HGG:=Lh hM.out.mem
 clear hb0 hB hR hs1 ew1 ew1' hM
 obtain⟨b0,e0⟩:∃b0,w.heap.size=b0:=⟨_,rfl⟩
 have E0:=Lh e0
 rw [e0] at HB HRB HGL HM1 ⊢
 clear e0
 obtain⟨GG,eGG⟩:∃GG,(b0+1) :: G=GG:=⟨_,rfl⟩
 have EGG:=Lh eGG
 rw [eGG] at HM1
 clear eGG
 have HBc:=HB.out
 have c9:w1.cell? ⟨b0,9,none⟩=some (.int .i64 c.node):=(HB.out.cell 9).trans V9.out
 have c10:w1.cell? ⟨b0,10,none⟩=some (.bool c.up):=(HB.out.cell 10).trans V10.out
 clear HBc
 obtain⟨nd,end_⟩:∃nd,c.node=nd:=⟨_,rfl⟩
 have END:=Lh end_
 rw [end_] at c9 V9
 obtain⟨up,eup⟩:∃up,c.up=up:=⟨_,rfl⟩
 have EUP:=Lh eup
 rw [eup] at c10 V10
 clear end_ eup
 by_cases h1:1≤nd
 · by_cases h2:nd≤32
   · have HY:=Lh (And.intro h1 h2)
     have d1:decide (nd≥1)=true:=decide_eq_true h1
     have d1':decide (1≤nd)=true:=decide_eq_true h1
     have d2:decide (nd≤32)=true:=decide_eq_true h2
     cases up with
     | true =>
       go_wp2_with fail
       clear c9 c10 d1 d1' d2
       obtain⟨nn,enn⟩:∃nn,m.x.down.length=nn:=⟨_,rfl⟩
       have ENN:=Lh enn
       have hnn:nn≤16777216:=by rw [← enn];exact HM1.out.inn.wf.dl
       have HLN:=Lh (show (m.x.down).length=nn from by rw [← enn])
       clear enn
       refine wp_region_late (S0:=fun w'=>w'.cell? ⟨b0,9,none⟩=some (.int .i64 nd)) (S:=fun w'=>w'.cell? ⟨g,12,none⟩=some (.slice m.DA nn m.dc)) 13 14 (by kernel_rfl) rfl ⟨(HB.out.cell 9).trans V9.out,(HM1.out.blk.cell 12).trans (by rw [← ENN.out];rfl)⟩ (fun wd hwd hH=>?_)
       have DW:=Lh (show Below w1.heap.size w1 wd from by rw [hwd];exact (Below.refl _ _).drew)
       clear hwd
       have HMd:=Lh (HM1.out.later DW.out)
       have HBd:=Lh (HB.out.below DW.out HB.out.lt)
       refine tS 0 rfl ?_ hH ?_ ?_
       rotate_left
       · (intro wx hx;go_simp <;> with_reducible rfl)
       try simp only [Act.put,pA9,pZ9,pS9]
       refine tS 1 rfl ?_ hH ?_ ?_
       rotate_left
       · (intro wx hx;go_simp <;> with_reducible rfl)
       try simp only [Act.put,pA9,pZ9,pS9]
       refine tS 2 rfl ?_ hH ?_ ?_
       rotate_left
       · (intro wx hx;go_simp <;> with_reducible rfl)
       try simp only [Act.put,pA9,pZ9,pS9]
       refine tS 3 rfl ?_ hH ?_ ?_
       rotate_left
       · (intro wx hx;go_simp <;> with_reducible rfl)
       try simp only [Act.put,pA9,pZ9,pS9]
       refine tS 4 rfl ?_ hH ?_ ?_
       rotate_left
       · (intro wx hx;go_simp <;> with_reducible rfl)
       try simp only [Act.put,pA9,pZ9,pS9]
       refine wpAnyT_take 5 (v:=?_) rfl (by kernel_rfl) (fun _ _ _ h=>h) (Or.inl ⟨by rfl,?_⟩) hH ?_
       rotate_left
       · (intro wx hx;go_simp <;> with_reducible rfl)
       try simp only [Act.put,pA9,pZ9,pS9]
       refine tS 6 rfl ?_ hH ?_ ?_
       rotate_left
       · (intro wx hx;go_simp <;> with_reducible rfl)
       try simp only [Act.put,pA9,pZ9,pS9]
       refine tS 7 rfl ?_ hH ?_ ?_
       rotate_left
       · (intro wx hx;go_simp <;> with_reducible rfl)
       try simp only [Act.put,pA9,pZ9,pS9]
       refine wpAnyT_one 8 rfl (by kernel_rfl) (fun K hQ=>?_)
       go_simp
       (go_at_call 69;refine (mkI64 (nd) _).mono ?_;rintro e w8 ⟨rfl,hc8,hb8⟩)
       have HC8:=Lh hc8
       have HB8:=Lh hb8
       have HM8:=Lh (HMd.out.later hb8)
       clear hc8 hb8
       refine hQ.out _ _ ?_ (fun hH8=>?_)
       · exact⟨((HBd.out.below HB8.out HBd.out.lt).cell 9).trans V9.out,(HM8.out.blk.cell 12).trans (by rw [← ENN.out];rfl)⟩
       clear hQ K
       try simp only [Act.put,pA9,pZ9,pS9]
       refine wpAnyT_one 9 rfl (by kernel_rfl) (fun K hQ=>?_)
       go_simp
       (go_at_call 72;refine (dropI64 m.DA nn m.dc m.x.down wd.heap.size (nd) _ (Lh (by have:=HM8.out.inn.rows.down.rd;unfold MM.down at this;rw [ENN.out] at this;exact this)) (Lh HLN.out) (by omega) HC8 (Lh fun _ _=>trivial) trivial (by have:=HM8.out.inn.rows.down.nc;unfold MM.down at this;rw [ENN.out] at this;exact this) HM8.out.inn.rows.down.cm).mono ?_;rintro e w9 ⟨A9,c9,rfl,hr9,hn9,hm9,hb9,ho9⟩)
       have HR9:=Lh hr9
       have HO9:=Lh ho9
       have HN9:=Lh (And.intro hn9 hm9)
       have HM9:=Lh (HM8.out.later hb9)
       have HB89:=Lh (HB8.out.trans (hb9.mono HB8.out.size))
       have z0:w9.cell? ⟨g,12,none⟩=some (.slice m.DA nn m.dc):=(HM9.out.blk.cell 12).trans (by rw [← ENN.out];rfl)
       have z1:w9.frozen? ⟨g,12,none⟩=false:=HM9.out.blk.frozen 12
       clear hr9 ho9 hn9 hm9 hb9
       refine hQ.out _ _ ?_ (fun hH9=>?_)
       · exact⟨((HBd.out.below HB89.out HBd.out.lt).cell 9).trans V9.out,z0⟩
       clear hQ K
       try simp only [Act.put,pA9,pZ9,pS9]
       refine tS 10 rfl ?_ hH9 ?_ ?_
       rotate_left
       · (intro wx hx;go_simp <;> with_reducible rfl)
       try simp only [Act.put,pA9,pZ9,pS9]
       refine tS 11 rfl ?_ hH9 ?_ ?_
       rotate_left
       · (intro wx hx;go_simp <;> with_reducible rfl)
       try simp only [Act.put,pA9,pZ9,pS9]
       refine tS 12 rfl ?_ hH9 ?_ ?_
       rotate_left
       · (intro wx hx;go_simp <;> with_reducible rfl)
       try simp only [Act.put,pA9,pZ9,pS9]
       refine wpAnyT_last 13 rfl (by kernel_rfl) (by decide) (fun K hQ=>?_)
       go_simp
       refine hQ.out _ _ ?_ (fun hH13=>?_)
       · exact (((HBd.out.below HB89.out HBd.out.lt).far (Nat.ne_of_gt HGL.out) _).cell 9).trans V9.out
       clear hQ K
       try simp only [Act.put,pA9,pZ9,pS9]
       refine wpAnyT_done (by kernel_rfl) ?_ _
       obtain⟨L9,eL9⟩:∃L,dropB (fL (cmpI64 (nd)) m.x.down) (m.x.down)=L:=⟨_,rfl⟩
       have hsub:∀i ∈ L9,i ∈ m.x.down:=fun i hi=>by rw [← eL9] at hi;exact mem_dropB hi
       have hpos:0<L9.length→0<nn:=fun h=>by rw [← eL9] at h;have:=drop_pos h;rw [← HLN.out];exact this
       have hlen:L9.length≤nn:=by rw [← HLN.out,← eL9,dropB_len];split <;> omega
       rw [eL9] at HR9 HO9 HN9 ⊢
       have SUB:=Lh hsub
       have POS:=Lh hpos
       have LEN:=Lh hlen
       have EL9:=Lh eL9
       clear eL9 hsub hpos hlen
       have GS:=Lh (HM9.out.blk.set_ 12 (.slice A9 L9.length c9))
       have OS:=Lh (Only.set_ w9 g 12 (.slice A9 L9.length c9))
       obtain⟨wx,hwx⟩:∃wx,w9.setCell ⟨g,12,none⟩ (.slice A9 L9.length c9)=wx:=⟨_,rfl⟩
       rw [hwx] at GS OS ⊢
       clear hwx z0 z1 hH hH8 hH9 hH13
       have hO9:∀q ∈ GG,(⟨1,A9,c9,L9.length,L9.flatMap i1⟩:RowT).Off q:=fun q hq=>off_drop (n:=nn) (by have:=(HMd.out.off q hq).down;unfold MM.down at this;rw [ENN.out] at this;exact this) POS.out (HM8.out.lt q hq) HO9.out
       have hI9:(⟨1,A9,c9,L9.length,L9.flatMap i1⟩:RowT).In w9:=⟨HR9.out,HN9.out.1,HN9.out.2⟩
       have HX:=Lh (HM9.out.setD (gb_only OS.out) GS.out (hI9.grown (hO9 g HM9.out.mem) (gb_only OS.out)) hO9 (by have:=LEN.out;omega))
       have HGX:=Lh (gb_trans (gb_trans (gb_below DW.out (some g)) (gb_below HB89.out _)) (gb_only OS.out))
       have HEQ:=Lh (show L9=dropR intO (fun x=>x) nd m.x.down from by rw [← EL9.out];exact dropB_eq (o:=intO) (key:=fun x=>x) hR.out _)
       have HRX:=Lh (HRB.out.gb HGX.out (by have:=HGL.out;omega))
       go_wp2_with (first
        | (go_at_call 19;refine (when_any _ _).mono ?_;rintro e w10 ⟨rfl,hb10⟩;have HB10:=Lh hb10;clear hb10)
        | (refine wpl_store_blk rfl 39 (.tmp 4) _ rfl (b0+1) 39 rZ _ rfl rfl (HRX.out.below HB10.out HRX.out.lt) rfl Tryz.szR rfl ?_;intro w11 hB11 hO11))
       have HMF:=(HX.out.later HB10.out)
       rw [← EGG.out] at HMF
       have HTF:=TurnM.mk (gb_fresh (gb_trans (gb_trans (gb_below HB0.out (some g)) HGX.out) (gb_below HB10.out _)) hO11.out (by rw [E0.out];omega)) (HMF.sub hO11.out (by have:=HGL.out;omega) HGG.out) rfl
       refine bodyPost_ret (res_c Tryz.results28 rfl (load_blk hB11.out Tryz.underlying39 rfl Tryz.szR)) rfl ?_
       refine ret_eq ?_ (RetRes.code rfl rfl HTF)
       show (({ m.x with down:=L9 }:MetT),whenC true)=liveM m.x c
       unfold liveM
       rw [HEQ.out,END.out,EUP.out,if_pos HY.out]
       rfl
     | false =>
       go_wp2_with fail
       clear c9 c10 d1 d1' d2
       obtain⟨nn,enn⟩:∃nn,m.x.down.length=nn:=⟨_,rfl⟩
       have ENN:=Lh enn
       have hnn:nn≤16777216:=by rw [← enn];exact HM1.out.inn.wf.dl
       have HLN:=Lh (show (m.x.down).length=nn from by rw [← enn])
       clear enn
       refine wp_region_late (S0:=fun w'=>w'.cell? ⟨b0,9,none⟩=some (.int .i64 nd)) (S:=fun w'=>w'.cell? ⟨g,12,none⟩=some (.slice m.DA nn m.dc)) 15 16 (by kernel_rfl) rfl ⟨(HB.out.cell 9).trans V9.out,(HM1.out.blk.cell 12).trans (by rw [← ENN.out];rfl)⟩ (fun wd hwd hH=>?_)
       have DW:=Lh (show Below w1.heap.size w1 wd from by rw [hwd];exact (Below.refl _ _).drew)
       clear hwd
       have HMd:=Lh (HM1.out.later DW.out)
       have HBd:=Lh (HB.out.below DW.out HB.out.lt)
       refine tS 0 rfl ?_ hH ?_ ?_
       rotate_left
       · (intro wx hx;go_simp <;> with_reducible rfl)
       try simp only [Act.put,pA9,pZ9,pS9]
       refine tS 1 rfl ?_ hH ?_ ?_
       rotate_left
       · (intro wx hx;go_simp <;> with_reducible rfl)
       try simp only [Act.put,pA9,pZ9,pS9]
       refine tS 2 rfl ?_ hH ?_ ?_
       rotate_left
       · (intro wx hx;go_simp <;> with_reducible rfl)
       try simp only [Act.put,pA9,pZ9,pS9]
       refine tS 3 rfl ?_ hH ?_ ?_
       rotate_left
       · (intro wx hx;go_simp <;> with_reducible rfl)
       try simp only [Act.put,pA9,pZ9,pS9]
       refine tS 4 rfl ?_ hH ?_ ?_
       rotate_left
       · (intro wx hx;go_simp <;> with_reducible rfl)
       try simp only [Act.put,pA9,pZ9,pS9]
       refine wpAnyT_take 5 (v:=?_) rfl (by kernel_rfl) (fun _ _ _ h=>h) (Or.inl ⟨by rfl,?_⟩) hH ?_
       rotate_left
       · (intro wx hx;go_simp <;> with_reducible rfl)
       try simp only [Act.put,pA9,pZ9,pS9]
       refine tS 6 rfl ?_ hH ?_ ?_
       rotate_left
       · (intro wx hx;go_simp <;> with_reducible rfl)
       try simp only [Act.put,pA9,pZ9,pS9]
       refine tS 7 rfl ?_ hH ?_ ?_
       rotate_left
       · (intro wx hx;go_simp <;> with_reducible rfl)
       try simp only [Act.put,pA9,pZ9,pS9]
       refine tS 8 rfl ?_ hH ?_ ?_
       rotate_left
       · (intro wx hx;go_simp <;> with_reducible rfl)
       try simp only [Act.put,pA9,pZ9,pS9]
       refine tS 9 rfl ?_ hH ?_ ?_
       rotate_left
       · (intro wx hx;go_simp <;> with_reducible rfl)
       try simp only [Act.put,pA9,pZ9,pS9]
       refine wpAnyT_one 10 rfl (by kernel_rfl) (fun K hQ=>?_)
       go_simp
       (go_at_call 69;refine (mkI64 (nd) _).mono ?_;rintro e w8 ⟨rfl,hc8,hb8⟩)
       have HC8:=Lh hc8
       have HB8:=Lh hb8
       have HM8:=Lh (HMd.out.later hb8)
       clear hc8 hb8
       refine hQ.out _ _ ?_ (fun hH10=>?_)
       · exact⟨((HBd.out.below HB8.out HBd.out.lt).cell 9).trans V9.out,(HM8.out.blk.cell 12).trans (by rw [← ENN.out];rfl)⟩
       clear hQ K
       try simp only [Act.put,pA9,pZ9,pS9]
       refine wpAnyT_one 11 rfl (by kernel_rfl) (fun K hQ=>?_)
       go_simp
       (go_at_call 68;refine (putI64 m.DA nn m.dc m.x.down (nd) wd.heap.size (nd) _ (Lh (by have:=HM8.out.inn.rows.down.rd;unfold MM.down at this;rw [ENN.out] at this;exact this)) (Lh HLN.out) (by omega) HC8 (Lh fun _ _=>trivial) trivial).mono ?_;rintro e w9 ⟨v9,rfl,ho9,hb9⟩)
       obtain⟨A9,c9,rfl,h91,h92⟩:=own_slice ho9
       have HO9:=Lh (rowIn_own ho9)
       have HM9:=Lh (HM8.out.later hb9)
       have HB89:=Lh (HB8.out.trans (hb9.mono HB8.out.size))
       have z0:w9.cell? ⟨g,12,none⟩=some (.slice m.DA nn m.dc):=(HM9.out.blk.cell 12).trans (by rw [← ENN.out];rfl)
       have z1:w9.frozen? ⟨g,12,none⟩=false:=HM9.out.blk.frozen 12
       clear ho9 hb9
       refine hQ.out _ _ ?_ (fun hH11=>?_)
       · exact⟨((HBd.out.below HB89.out HBd.out.lt).cell 9).trans V9.out,z0⟩
       clear hQ K
       try simp only [Act.put,pA9,pZ9,pS9]
       refine tS 12 rfl ?_ hH11 ?_ ?_
       rotate_left
       · (intro wx hx;go_simp <;> with_reducible rfl)
       try simp only [Act.put,pA9,pZ9,pS9]
       refine tS 13 rfl ?_ hH11 ?_ ?_
       rotate_left
       · (intro wx hx;go_simp <;> with_reducible rfl)
       try simp only [Act.put,pA9,pZ9,pS9]
       refine tS 14 rfl ?_ hH11 ?_ ?_
       rotate_left
       · (intro wx hx;go_simp <;> with_reducible rfl)
       try simp only [Act.put,pA9,pZ9,pS9]
       refine wpAnyT_last 15 rfl (by kernel_rfl) (by decide) (fun K hQ=>?_)
       go_simp
       refine hQ.out _ _ ?_ (fun hH15=>?_)
       · exact (((HBd.out.below HB89.out HBd.out.lt).far (Nat.ne_of_gt HGL.out) _).cell 9).trans V9.out
       clear hQ K
       try simp only [Act.put,pA9,pZ9,pS9]
       refine wpAnyT_done (by kernel_rfl) ?_ _
       obtain⟨L9,eL9⟩:∃L,putB (fL (cmpI64 (nd)) m.x.down) (nd) (m.x.down)=L:=⟨_,rfl⟩
       have hsub:∀i ∈ L9,i=nd∨i ∈ m.x.down:=fun i hi=>by rw [← eL9] at hi;exact mem_putB hi
       have hlen:L9.length≤nn+1:=by rw [← HLN.out,← eL9,putB_len];split <;> omega
       rw [eL9] at HO9 ⊢
       have SUB:=Lh hsub
       have LEN:=Lh hlen
       have EL9:=Lh eL9
       clear eL9 hsub hlen
       have GS:=Lh (HM9.out.blk.set_ 12 (.slice A9 L9.length c9))
       have OS:=Lh (Only.set_ w9 g 12 (.slice A9 L9.length c9))
       obtain⟨wx,hwx⟩:∃wx,w9.setCell ⟨g,12,none⟩ (.slice A9 L9.length c9)=wx:=⟨_,rfl⟩
       rw [hwx] at GS OS ⊢
       clear hwx z0 z1 hH hH10 hH11 hH15
       have hO9:∀q ∈ GG,(⟨1,A9,c9,L9.length,L9.flatMap i1⟩:RowT).Off q:=fun q hq=>HO9.out.2 q (HM8.out.lt q hq)
       have hI9:(⟨1,A9,c9,L9.length,L9.flatMap i1⟩:RowT).In w9:=HO9.out.1
       have HX:=Lh (HM9.out.setD (gb_only OS.out) GS.out (hI9.grown (hO9 g HM9.out.mem) (gb_only OS.out)) hO9 (by have:=LEN.out;have:=ENN.out;omega))
       have HGX:=Lh (gb_trans (gb_trans (gb_below DW.out (some g)) (gb_below HB89.out _)) (gb_only OS.out))
       have HEQ:=Lh (show L9=putR intO (fun x=>x) nd m.x.down from by rw [← EL9.out];exact putB_eq (o:=intO) (key:=fun x=>x) hR.out nd)
       have HRX:=Lh (HRB.out.gb HGX.out (by have:=HGL.out;omega))
       go_wp2_with (first
        | (go_at_call 19;refine (when_any _ _).mono ?_;rintro e w10 ⟨rfl,hb10⟩;have HB10:=Lh hb10;clear hb10)
        | (refine wpl_store_blk rfl 39 (.tmp 4) _ rfl (b0+1) 39 rZ _ rfl rfl (HRX.out.below HB10.out HRX.out.lt) rfl Tryz.szR rfl ?_;intro w11 hB11 hO11))
       have HMF:=(HX.out.later HB10.out)
       rw [← EGG.out] at HMF
       have HTF:=TurnM.mk (gb_fresh (gb_trans (gb_trans (gb_below HB0.out (some g)) HGX.out) (gb_below HB10.out _)) hO11.out (by rw [E0.out];omega)) (HMF.sub hO11.out (by have:=HGL.out;omega) HGG.out) rfl
       refine bodyPost_ret (res_c Tryz.results28 rfl (load_blk hB11.out Tryz.underlying39 rfl Tryz.szR)) rfl ?_
       refine ret_eq ?_ (RetRes.code rfl rfl HTF)
       show (({ m.x with down:=L9 }:MetT),whenC true)=liveM m.x c
       unfold liveM
       rw [HEQ.out,END.out,EUP.out,if_pos HY.out]
       rfl
   · have HN:=Lh (show ¬ (1≤nd∧nd≤32) from fun h=>h2 h.2)
     have d1:decide (nd≥1)=true:=decide_eq_true h1
     have d1':decide (1≤nd)=true:=decide_eq_true h1
     have d2:decide (nd≤32)=false:=decide_eq_false h2
     have HX:=HM1
     have HGX:=Lh (gb_refl w1 (some g))
     have HRX:=HRB
     go_wp2_with (first
      | (go_at_call 19;refine (when_any _ _).mono ?_;rintro e w10 ⟨rfl,hb10⟩;have HB10:=Lh hb10;clear hb10)
      | (refine wpl_store_blk rfl 39 (.tmp 4) _ rfl (b0+1) 39 rZ _ rfl rfl (HRX.out.below HB10.out HRX.out.lt) rfl Tryz.szR rfl ?_;intro w11 hB11 hO11))
     have HMF:=(HX.out.later HB10.out)
     rw [← EGG.out] at HMF
     have HTF:=TurnM.mk (gb_fresh (gb_trans (gb_trans (gb_below HB0.out (some g)) HGX.out) (gb_below HB10.out _)) hO11.out (by rw [E0.out];omega)) (HMF.sub hO11.out (by have:=HGL.out;omega) HGG.out) rfl
     refine bodyPost_ret (res_c Tryz.results28 rfl (load_blk hB11.out Tryz.underlying39 rfl Tryz.szR)) rfl ?_
     refine ret_eq ?_ (RetRes.code rfl rfl HTF)
     show (m.x,whenC false)=liveM m.x c
     unfold liveM
     rw [END.out,if_neg HN.out]
 · have HN:=Lh (show ¬ (1≤nd∧nd≤32) from fun h=>h1 h.1)
   have d1:decide (nd≥1)=false:=decide_eq_false h1
   have d1':decide (1≤nd)=false:=decide_eq_false h1
   have HX:=HM1
   have HGX:=Lh (gb_refl w1 (some g))
   have HRX:=HRB
   go_wp2_with (first
    | (go_at_call 19;refine (when_any _ _).mono ?_;rintro e w10 ⟨rfl,hb10⟩;have HB10:=Lh hb10;clear hb10)
    | (refine wpl_store_blk rfl 39 (.tmp 4) _ rfl (b0+1) 39 rZ _ rfl rfl (HRX.out.below HB10.out HRX.out.lt) rfl Tryz.szR rfl ?_;intro w11 hB11 hO11))
   have HMF:=(HX.out.later HB10.out)
   rw [← EGG.out] at HMF
   have HTF:=TurnM.mk (gb_fresh (gb_trans (gb_trans (gb_below HB0.out (some g)) HGX.out) (gb_below HB10.out _)) hO11.out (by rw [E0.out];omega)) (HMF.sub hO11.out (by have:=HGL.out;omega) HGG.out) rfl
   refine bodyPost_ret (res_c Tryz.results28 rfl (load_blk hB11.out Tryz.underlying39 rfl Tryz.szR)) rfl ?_
   refine ret_eq ?_ (RetRes.code rfl rfl HTF)
   show (m.x,whenC false)=liveM m.x c
   unfold liveM
   rw [END.out,if_neg HN.out]
end
end Go.Proofs.YtdoneomahlfkbaaGreat
