/- THE MACHINE: an intent begins. (printed by gen_meh12.py). (joined out of MeH12 by shake.py) -/
import Derived.Test.YtdoneomahlfkbaaGreatOnc16
set_option linter.unusedVariables false
set_option linter.unusedSimpArgs false
set_option maxRecDepth 100000
set_option maxHeartbeats 8000000
namespace Go.Proofs.YtdoneomahlfkbaaGreat
section
open Go.RowKit OctMath StrMath PlMath
def oZ:Array Value:=#[.string ⟨#[]⟩,.int .u64 0,.int .i64 0,.int .u32 0,.int .i64 0,.int .u64 0,.slice none 0 0]
structure BegO (W:World) (o:OM) (b:Nat) (w:World):Prop where
 ge:W.heap.size≤b
 bel:Below W.heap.size W w
 blk:Blk w b 58 (oA o)
 row:(oRow o).In w
 off:∀k,k<W.heap.size→(oRow o).Off k
theorem oRow_only {r:RowT} {w w':World} {k:Nat} (h:r.In w) (ho:Only k w w') (hf:r.Off k):r.In w':=h.grown hf ho.grown
theorem Tryz.bItt:(Tryz.prog.info? 60).map (fun i=>(i.zero.map (·.cells.size),i.size))=some (some 9,9):=by kernel_rfl
theorem oneI1 (i:IM):∀u ∈ imCs i,u.oneCell'=true:=fun u hu=>oneItt [i] u (by simpa using hu)
theorem blk_reads {w:World} {b:Nat} {t:TypeId} {i:IM} (h:Blk w b t (iA i)):Reads w w.heap.size 9 (some ⟨b,0,none⟩) 1 (imCs i) :=
 ⟨rfl,fun _=>⟨_,rfl,h.lt,fun j u hu=>by
  have:=h.cell j
  rw [show (iA i)[j]?=(imCs i)[j]? from by unfold imCs iA;simp,hu] at this
  rw [addr0]
  exact this⟩⟩
theorem far_cell {w:World} {g i b j:Nat} {u v:Value} (hb:b≠g) (h:w.cell? ⟨b,j,none⟩=some v):(w.setCell ⟨g,i,none⟩ u).cell? ⟨b,j,none⟩=some v:=(World.cell?_setCell_other w ⟨g,i,none⟩ ⟨b,j,none⟩ u (fun e=>hb (by have h9:=congrArg Addr.block e;first | exact h9 | exact h9.symm))).trans h
theorem beg_ints {GG:List Nat} {g:Nat} {mA:MM} {w4 wc wd w7:World} {i:OM} {b9 nn:Nat} {cl sq:Nat} {A10:Option Addr} {c10:Nat} (hM:MS GG g mA wd) (hd:Below wc.heap.size wc wd) (hb:Below wd.heap.size wd w7)
 (hr:(⟨9,A10,c10,nn+1,mA.is.flatMap imCs ++ imCs ⟨⟨i.x,cl,sq⟩,i.A,i.c⟩⟩:RowT).In w7) (ho:∀k,k<wd.heap.size→(⟨9,A10,c10,nn+1,mA.is.flatMap imCs ++ imCs ⟨⟨i.x,cl,sq⟩,i.A,i.c⟩⟩:RowT).Off k)
 (hO:BegO w4 i b9 wc) (hg:g≠b9) (hn:mA.x.ints.length=nn) (hl:nn+1≤16777216) (hk:Byt i.x.key) (h4:∀k ∈ GG,k<w4.heap.size) :
 ∃m',MS GG g m' (w7.setCell ⟨g,9,none⟩ (.slice A10 ((nn:Int)+1).toNat c10))∧m'.x={ mA.x with ints:=mA.x.ints ++ [⟨i.x,cl,sq⟩] }∧wc.grownBy (w7.setCell ⟨g,9,none⟩ (.slice A10 ((nn:Int)+1).toNat c10)) (some g):=by
 have e1:((nn:Int)+1).toNat=nn+1:=by omega
 rw [e1]
 have hM7:=hM.later hb
 have hos:=Only.set_ w7 g 9 (.slice A10 (nn+1) c10)
 have hl2:(mA.is ++ [(⟨⟨i.x,cl,sq⟩,i.A,i.c⟩:IM)]).length=nn+1:=by rw [List.length_append,hM.inn.ilen,hn];rfl
 have hfl:(mA.is ++ [(⟨⟨i.x,cl,sq⟩,i.A,i.c⟩:IM)]).flatMap imCs=mA.is.flatMap imCs ++ imCs ⟨⟨i.x,cl,sq⟩,i.A,i.c⟩:=by rw [List.flatMap_append];simp
 refine⟨mA.setI (mA.is ++ [(⟨⟨i.x,cl,sq⟩,i.A,i.c⟩:IM)]) A10 c10,hM7.setI (gb_only hos) (by rw [hl2];exact hM7.blk.set_ 9 _) (by rw [hl2,hfl];exact hr.grown (ho g (hM.lt g hM.mem)) (gb_only hos)) (fun k hk=>by rw [hl2,hfl];exact ho k (hM.lt k hk)) (by rw [hl2];exact hl) (fun q hq=>?_),?_,gb_trans (gb_below (hd.trans (hb.mono hd.size)) _) (gb_only hos)⟩
 · rcases List.mem_append.1 hq with hq | hq
   · exact .inl hq
   · rw [List.mem_singleton.1 hq]
     have h1:(oRow i).In w7:=(hO.row.later hd).later hb
     exact .inr ⟨h1.grown (hO.off g (h4 g hM.mem)) (gb_only hos),fun k hk=>hO.off k (h4 k hk),hk⟩
 · show { mA.x with ints:=(mA.is ++ [(⟨⟨i.x,cl,sq⟩,i.A,i.c⟩:IM)]).map (fun y:IM=>y.x) }=_
   rw [List.map_append,hM.inn.is]
   rfl
theorem strOf_le (x:List Nat) (h:x.length≤maxLen):(strOf x).size≤maxLen:=by rw [strOf_len];exact h
theorem begin_any (G:List Nat) (g:Nat) (m:MM) (c:CmdT) (CA:Option Addr) (cc:Nat) (w:World) (hM:Hid (MS G g m w)) (ok:Hid (MOk m)) (hkb:Byt c.key) (hkl:c.key.length≤maxLen) (h64:M64 m.x.nem) :
 Calls Tryz.prog 20 #[.pointer (some ⟨g,0,none⟩),.agg (cmdCs c CA cc)] w (RetRes G g (beginM plF m.x c) w):=by
 obtain⟨cs,ecs⟩:∃cs,cmdCs c CA cc=cs:=⟨_,rfl⟩
 have V0:=Lh (show cs[0]?=some (.int .i64 c.kind) from by rw [← ecs];rfl)
 have V1:=Lh (show cs[1]?=some (.int .u64 (c.client:Int)) from by rw [← ecs];rfl)
 have V2:=Lh (show cs[2]?=some (.int .u64 (c.seq:Int)) from by rw [← ecs];rfl)
 have V3:=Lh (show cs[3]?=some (.string (strOf c.key)) from by rw [← ecs];rfl)
 have V4:=Lh (show cs[4]?=some (.int .i64 c.size) from by rw [← ecs];rfl)
 have V5:=Lh (show cs[5]?=some (.int .u32 (c.sum:Int)) from by rw [← ecs];rfl)
 have V6:=Lh (show cs[6]?=some (.int .u64 (c.version:Int)) from by rw [← ecs];rfl)
 have V7:=Lh (show cs[7]?=some (.int .u64 (c.epoch:Int)) from by rw [← ecs];rfl)
 have V8:=Lh (show cs[8]?=some (.int .i64 c.group) from by rw [← ecs];rfl)
 have V9:=Lh (show cs[9]?=some (.int .i64 c.node) from by rw [← ecs];rfl)
 have V10:=Lh (show cs[10]?=some (.bool c.up) from by rw [← ecs];rfl)
 have V11:=Lh (show cs[11]?=some (.int .u64 (c.id.ver:Int)) from by rw [← ecs];rfl)
 have V12:=Lh (show cs[12]?=some (.int .i64 c.id.idx) from by rw [← ecs];rfl)
 have V13:=Lh (show cs[13]?=some (.int .u64 (c.id.ep:Int)) from by rw [← ecs];rfl)
 have V14:=Lh (show cs[14]?=some (.int .u64 (c.mep:Int)) from by rw [← ecs];rfl)
 have V15:=Lh (show cs[15]?=some (.slice CA c.mem.length cc) from by rw [← ecs];rfl)
 have HCS:=Lh (show cs.size=16 from by rw [← ecs];rfl)
 have HCO:=Lh (show cs.toList.all (·.oneCell')=true from by rw [← ecs];rfl)
 rw [ecs]
 have ECS:=Lh ecs
 clear ecs
 have HGL:=Lh hM.out.blk.lt
 go_enter Tryz.func20,Tryz.ntmps20
 go_upto_region 1 with (fail)
 obtain⟨w1,ew1⟩:∃w1,(w.alloc (.cells cs 48)).alloc (.cells rZ 39)=w1:=⟨_,rfl⟩
 have hb0:Below w.heap.size w ((w.alloc (.cells cs 48)).alloc (.cells rZ 39)):=((Below.refl _ _).alloc (Nat.le_refl _) _).alloc (by simp) _
 have hB:=(Blk.new w 48 cs).alloc (.cells rZ 39)
 have hR:=Blk.new (w.alloc (.cells cs 48)) 39 rZ
 have hs1:(w.alloc (.cells cs 48)).heap.size=w.heap.size+1:=by simp
 rw [hs1] at hR
 rw [ew1] at hb0 hB hR
 have ew1':(w.alloc (.cells cs 48)).alloc (.cells #[.int .i64 0,.int .u64 0,.slice none 0 0,.int .u64 0] 39)=w1:=ew1
 rw [ew1']
 have HB0:=Lh hb0
 have HB:=Lh hB
 have HRB:=Lh hR
 have HM1:=Lh (hM.out.add hb0 (k:=w.heap.size+1) (by omega) hR.lt)
 have HGG:=Lh hM.out.mem
 clear hb0 hB hR hs1 ew1 ew1' hM
 obtain⟨b0,e0⟩:∃b0,w.heap.size=b0:=⟨_,rfl⟩
 have E0:=Lh e0
 rw [e0] at HB HRB HGL HM1 ⊢
 clear e0
 obtain⟨GG,eGG⟩:∃GG,(b0+1) :: G=GG:=⟨_,rfl⟩
 have EGG:=Lh eGG
 rw [eGG] at HM1
 clear eGG
 have HKL:=Lh (strOf_le c.key hkl)
 have HAW:=Lh (fun W (h:Hid (MS GG g m W))=>asked_all GG g m c CA cc W h (by have:=hkl;unfold maxLen at this;omega) ok)
 rw [ECS.out] at HAW
 go_wp2_with (refine wpl_load_blk rfl 48 (.tmp 3) rfl b0 48 cs _ rfl HB.out Tryz.underlying48 rfl (by rw [HCS.out];exact Tryz.szCm) ?_)
 refine (HAW.out _ HM1).mono ?_
 rintro e w2 hr
 unfold RetAsk at hr
 cases ha:askM m.x c with
 | inl r =>
   rw [ha] at hr
   obtain⟨rfl,⟨hgb,mA,hmA,hxA⟩,hn,_⟩:=hr
   have HA:=Lh ha
   have HGB2:=Lh hgb
   have HMA:=Lh hmA
   have HXA:=Lh hxA
   have HN:=Lh hn
   have HR2:=Lh (HRB.out.gb hgb (by have:=HGL.out;omega))
   clear ha hgb hmA hxA hn HAW
   go_wp2_with (first
    | (refine wpl_store_blk rfl 39 (.tmp 5) (.tmp 14) rfl w2.heap.size 39 rZ (rcs r none 0) rfl rfl (Blk.new w2 _ _) rfl Tryz.szR rfl ?_;intro w3 hB3 hO3;have HT3:=Lh hB3;have HB23:=Lh (show Below w2.heap.size w2 w3 from ((Below.refl _ _).alloc (Nat.le_refl _) _).trans (hO3.out.below (Nat.le_refl _)));have HR3:=Lh (HR2.out.below HB23.out HR2.out.lt);clear hB3 hO3)
    | (refine wpl_load_blk rfl 39 (.tmp 5) rfl w2.heap.size 39 (rcs r none 0) _ rfl HT3.out.out Tryz.underlying39 rfl Tryz.szR ?_)
    | (refine wpl_store_blk rfl 39 (.tmp 4) _ rfl (b0+1) 39 rZ _ rfl rfl HR3.out rfl Tryz.szR rfl ?_;intro w11 hB11 hO11))
   have HMF:=HMA.out.later HB23.out
   rw [← EGG.out] at HMF
   have HTF:=TurnM.mk (gb_fresh (gb_trans (gb_trans (gb_below HB0.out (some g)) HGB2.out) (gb_below HB23.out _)) hO11.out (by rw [E0.out];omega)) (HMF.sub hO11.out (by have:=HGL.out;omega) HGG.out) HXA.out
   refine bodyPost_ret (res_c Tryz.results20 rfl (load_blk hB11.out Tryz.underlying39 rfl Tryz.szR)) rfl ?_
   refine ret_eq ?_ (RetRes.code rfl HN.out HTF)
   unfold beginM
   rw [HA.out]
 | inr mA' =>
   rw [ha] at hr
   obtain⟨rfl,hgb,mA,hmA,hxA⟩:=hr
   have HL:=Lh (ask_left ha)
   have HA:=Lh ha
   have HGB2:=Lh hgb
   have HMA:=Lh hmA
   have HXA:=Lh hxA
   have HR2:=Lh (HRB.out.gb hgb (by have:=HGL.out;omega))
   have HB2:=Lh (HB.out.gb hgb (Nat.ne_of_gt HGL.out))
   have HG2:=Lh (gb_trans (gb_below HB0.out (some g)) hgb)
   have HS2:=Lh hgb.size
   clear ha hgb hmA hxA HAW
   have H64:=Lh (show M64 mA.x.nem from by rw [HXA.out,HL.out.nem];exact h64)
   go_upto_region 4 with (refine wpl_store_blk rfl 39 (.tmp 5) (.tmp 14) rfl w2.heap.size 39 rZ rZ rfl rfl (Blk.new w2 _ _) rfl Tryz.szR rfl ?_;intro w3 hB3 hO3)
   have HB23:=Lh (show Below w2.heap.size w2 w3 from ((Below.refl _ _).alloc (Nat.le_refl _) _).trans (hO3.out.below (Nat.le_refl _)))
   have HM3:=Lh (HMA.out.later HB23.out)
   have HB3:=Lh (HB2.out.below HB23.out HB2.out.lt)
   have HR3:=Lh (HR2.out.below HB23.out HR2.out.lt)
   have HG3:=Lh (gb_trans HG2.out (gb_below HB23.out _))
   clear hB3 hO3 HMA HB2 HR2 HG2
   have c3:w3.cell? ⟨b0,3,none⟩=some (.string (strOf c.key)):=(HB3.out.cell 3).trans V3.out
   have g2:w3.cell? ⟨g,2,none⟩=some (.int .i64 mA.x.groups):=HM3.out.blk.cell 2
   obtain⟨gr,egr⟩:∃gr,(groupN (strOf c.key) mA.x.groups).1=gr:=⟨_,rfl⟩
   obtain⟨ge,ege⟩:∃ge,(groupN (strOf c.key) mA.x.groups).2=ge:=⟨_,rfl⟩
   have HGR:=Lh (fun W=>group_any (strOf c.key) mA.x.groups W HKL.out)
   rw [egr,ege] at HGR
   have EGR:=Lh egr
   clear egr ege
   refine wp_region_class (fun w'=>Hid (Below w3.heap.size w3 w'∧w'.cell? ⟨b0,3,none⟩=some (.string (strOf c.key))∧w'.cell? ⟨g,2,none⟩=some (.int .i64 mA.x.groups))) (by kernel_rfl) (by kernel_rfl) (Lh ⟨(Below.refl _ _).drew,c3,g2⟩) ?_
   repeat (first
    | go_big_quiet_skip
    | (go_big_quiet_want;go_big_quiet_op;first
        | go_big_quiet_on
        | (refine⟨_,fun _ _=>rfl,?_⟩;go_big_quiet_on)
        | (refine⟨.string (strOf c.key),fun w' hw'=>?_,?_⟩
           · simp [hw'.out.2.1]
             done
           go_big_quiet_on)
        | (refine⟨.int .i64 mA.x.groups,fun w' hw'=>?_,?_⟩
           · simp [hw'.out.2.2]
             done
           go_big_quiet_on)
        | (refine⟨.tuple #[.int .i64 gr,.int .i64 ge],fun w' hw'=>?_,?_⟩
           · go_at_call 51
             exact (HGR.out w').mono (fun e w'' h=>⟨h.1,Lh ⟨hw'.out.1.trans (h.2.mono hw'.out.1.size),cell_later h.2 hw'.out.2.1,cell_later h.2 hw'.out.2.2⟩⟩)
           go_big_quiet_on)))
   refine wpQuiet_nil ?_
   intro w4 hw4
   have HB34:=Lh hw4.out.1
   clear hw4
   have HM4:=Lh (HM3.out.later HB34.out)
   have HB4:=Lh (HB3.out.below HB34.out HB3.out.lt)
   have HR4:=Lh (HR3.out.below HB34.out HR3.out.lt)
   have HG4:=Lh (gb_trans HG3.out (gb_below HB34.out _))
   clear c3 g2 HM3 HB3 HR3 HG3 HGR
   have c3:w4.cell? ⟨b0,3,none⟩=some (.string (strOf c.key)):=(HB4.out.cell 3).trans V3.out
   have c4:w4.cell? ⟨b0,4,none⟩=some (.int .i64 c.size):=(HB4.out.cell 4).trans V4.out
   have c5:w4.cell? ⟨b0,5,none⟩=some (.int .u32 (c.sum:Int)):=(HB4.out.cell 5).trans V5.out
   have g13:w4.cell? ⟨g,13,none⟩=some (.int .u64 (mA.x.last:Int)):=HM4.out.blk.cell 13
   have g5:w4.cell? ⟨g,5,none⟩=some (.int .u64 (mA.x.nep:Int)):=HM4.out.blk.cell 5
   have HND:=Lh (fun W (h:Below w4.heap.size w4 W)=>nodes_of mA gr W (Lh (HM4.out.inn.later h)) H64.out)
   have HGB:=Lh HM4.out.blk
   obtain⟨mcs,emcs⟩:∃mcs,mA.cs=mcs:=⟨_,rfl⟩
   have EMZ:=Lh (show mcs.size=14 from by rw [← emcs];rfl)
   rw [emcs] at HND HGB
   clear emcs
   go_upto_region 5 with (fail)
   go_cut [9] from 30 (fun s9 wx=>∃b9 A9 c9,s9 = .pointer (some ⟨b9,0,none⟩)∧Hid (BegO w4 ⟨⟨c.key,mA.x.last,c.size,c.sum,gr,mA.x.nep,plF.nds mA.x.next gr mA.x.n⟩,A9,c9⟩ b9 wx))
   case first =>
    refine wp_region_late (S0:=fun w'=>w'.cell? ⟨b0,3,none⟩=some (.string (strOf c.key))∧w'.cell? ⟨b0,4,none⟩=some (.int .i64 c.size)∧w'.cell? ⟨b0,5,none⟩=some (.int .u32 (c.sum:Int))∧w'.cell? ⟨g,13,none⟩=some (.int .u64 (mA.x.last:Int))∧w'.cell? ⟨g,5,none⟩=some (.int .u64 (mA.x.nep:Int))∧Blk w' g 72 mcs) (S:=fun _=>True) 26 27 (by kernel_rfl) rfl ⟨⟨c3,c4,c5,g13,g5,HGB.out.below ((Below.refl _ _).drew) HGB.out.lt⟩,trivial⟩ (fun wd hwd hH=>?_)
    have DW:=Lh (show Below w4.heap.size w4 wd from by rw [hwd];exact (Below.refl _ _).drew)
    clear hwd
    refine tS 0 rfl ?_ hH ?_ ?_
    rotate_left
    · (intro wx hx;obtain⟨_,_,_,_,_,_⟩:=hx;go_simp <;> with_reducible rfl)
    try simp only [Act.put,pA9,pZ9,pS9]
    refine tS 1 rfl ?_ hH ?_ ?_
    rotate_left
    · (intro wx hx;obtain⟨_,_,_,_,_,_⟩:=hx;go_simp <;> with_reducible rfl)
    try simp only [Act.put,pA9,pZ9,pS9]
    refine tS 2 rfl ?_ hH ?_ ?_
    rotate_left
    · (intro wx hx;obtain⟨_,_,_,_,_,_⟩:=hx;go_simp <;> with_reducible rfl)
    try simp only [Act.put,pA9,pZ9,pS9]
    refine tS 3 rfl ?_ hH ?_ ?_
    rotate_left
    · (intro wx hx;obtain⟨_,_,_,_,_,_⟩:=hx;go_simp <;> with_reducible rfl)
    try simp only [Act.put,pA9,pZ9,pS9]
    refine tS 4 rfl ?_ hH ?_ ?_
    rotate_left
    · (intro wx hx;obtain⟨_,_,_,_,_,_⟩:=hx;go_simp <;> with_reducible rfl)
    try simp only [Act.put,pA9,pZ9,pS9]
    refine tS 5 rfl ?_ hH ?_ ?_
    rotate_left
    · (intro wx hx;obtain⟨_,_,_,_,_,_⟩:=hx;go_simp <;> with_reducible rfl)
    try simp only [Act.put,pA9,pZ9,pS9]
    refine tS 6 rfl ?_ hH ?_ ?_
    rotate_left
    · (intro wx hx;obtain⟨_,_,_,_,_,_⟩:=hx;go_simp <;> with_reducible rfl)
    try simp only [Act.put,pA9,pZ9,pS9]
    refine tS 7 rfl ?_ hH ?_ ?_
    rotate_left
    · (intro wx hx;obtain⟨_,_,_,_,_,_⟩:=hx;go_simp <;> with_reducible rfl)
    try simp only [Act.put,pA9,pZ9,pS9]
    refine tS 8 rfl ?_ hH ?_ ?_
    rotate_left
    · (intro wx hx;obtain⟨_,_,_,_,_,_⟩:=hx;go_simp <;> with_reducible rfl)
    try simp only [Act.put,pA9,pZ9,pS9]
    refine tS 9 rfl ?_ hH ?_ ?_
    rotate_left
    · (intro wx hx;obtain⟨_,_,_,_,_,_⟩:=hx;go_simp <;> with_reducible rfl)
    try simp only [Act.put,pA9,pZ9,pS9]
    refine tS 10 rfl ?_ hH ?_ ?_
    rotate_left
    · (intro wx hx;obtain⟨_,_,_,_,_,_⟩:=hx;go_simp <;> with_reducible rfl)
    try simp only [Act.put,pA9,pZ9,pS9]
    refine tS 11 rfl ?_ hH ?_ ?_
    rotate_left
    · (intro wx hx;obtain⟨_,_,_,_,_,_⟩:=hx;go_simp <;> with_reducible rfl)
    try simp only [Act.put,pA9,pZ9,pS9]
    refine tS 12 rfl ?_ hH ?_ ?_
    rotate_left
    · (intro wx hx;obtain⟨_,_,_,_,_,_⟩:=hx;go_simp <;> with_reducible rfl)
    try simp only [Act.put,pA9,pZ9,pS9]
    refine tS 13 rfl ?_ hH ?_ ?_
    rotate_left
    · (intro wx hx;obtain⟨_,_,_,_,_,_⟩:=hx;go_simp <;> with_reducible rfl)
    try simp only [Act.put,pA9,pZ9,pS9]
    refine tS 14 rfl ?_ hH ?_ ?_
    rotate_left
    · (intro wx hx;obtain⟨_,_,_,_,_,_⟩:=hx;go_simp <;> with_reducible rfl)
    try simp only [Act.put,pA9,pZ9,pS9]
    refine tS 15 rfl ?_ hH ?_ ?_
    rotate_left
    · (intro wx hx;obtain⟨_,_,_,_,_,_⟩:=hx;go_simp <;> with_reducible rfl)
    try simp only [Act.put,pA9,pZ9,pS9]
    refine tS 16 rfl ?_ hH ?_ ?_
    rotate_left
    · (intro wx hx;obtain⟨_,_,_,_,_,_⟩:=hx;go_simp <;> with_reducible rfl)
    try simp only [Act.put,pA9,pZ9,pS9]
    refine tS 17 rfl ?_ hH ?_ ?_
    rotate_left
    · (intro wx hx;obtain⟨_,_,_,_,_,_⟩:=hx;go_simp <;> with_reducible rfl)
    try simp only [Act.put,pA9,pZ9,pS9]
    refine tS 18 rfl ?_ hH ?_ ?_
    rotate_left
    · (intro wx hx;obtain⟨_,_,_,_,_,_⟩:=hx;go_simp <;> with_reducible rfl)
    try simp only [Act.put,pA9,pZ9,pS9]
    refine tS 19 rfl ?_ hH ?_ ?_
    rotate_left
    · (intro wx hx;obtain⟨_,_,_,_,_,_⟩:=hx;go_simp <;> with_reducible rfl)
    try simp only [Act.put,pA9,pZ9,pS9]
    refine tS 20 rfl ?_ hH ?_ ?_
    rotate_left
    · (intro wx hx;obtain⟨_,_,_,_,_,_⟩:=hx;go_simp <;> with_reducible rfl)
    try simp only [Act.put,pA9,pZ9,pS9]
    refine wpAnyT_stay 21 rfl (by kernel_rfl) (fun _ _ _ h=>h) (yields_load_blk rfl 34 (.tmp 50) rfl g 72 mcs _ rfl (fun w' hw'=>hw'.2.2.2.2.2) Tryz.underlying34 rfl (by rw [EMZ.out];exact Tryz.szSt)) ⟨hH.1,fun _=>hH.2⟩ ?_
    try simp only [Act.put,pA9,pZ9,pS9]
    refine tS 22 rfl ?_ hH ?_ ?_
    rotate_left
    · (intro wx hx;obtain⟨_,_,_,_,_,_⟩:=hx;go_simp <;> with_reducible rfl)
    try simp only [Act.put,pA9,pZ9,pS9]
    refine wpAnyT_two 23 25 rfl rfl (by kernel_rfl) (fun K hQ=>?_) (fun K hQ=>?_)
    · -- the call first
      rw [if_pos (by rfl)]
      go_simp
      (go_at_call 52;refine (HND.out wd (DW.out)).mono ?_;rintro e w5 ⟨v9,rfl,ho9,hb9⟩)
      obtain⟨A9,c9,rfl,h91,h92⟩:=own_slice ho9
      have HO9:=Lh (rowIn_own ho9)
      have HB9:=Lh hb9
      clear ho9 hb9
      refine hQ.out _ _ ?_ (fun hH1=>?_)
      · exact⟨⟨cell_later HB9.out hH.1.1,cell_later HB9.out hH.1.2.1,cell_later HB9.out hH.1.2.2.1,cell_later HB9.out hH.1.2.2.2.1,cell_later HB9.out hH.1.2.2.2.2.1,hH.1.2.2.2.2.2.below HB9.out hH.1.2.2.2.2.2.lt⟩,trivial⟩
      clear hQ K
      try simp only [Act.put,pA9,pZ9,pS9]
      refine tS 24 rfl ?_ hH1 ?_ ?_
      rotate_left
      · (intro wx hx;obtain⟨_,_,_,_,_,_⟩:=hx;go_simp <;> with_reducible rfl)
      try simp only [Act.put,pA9,pZ9,pS9]
      refine wpAnyT_one 25 rfl (by kernel_rfl) (fun K hQ=>?_)
      go_simp
      obtain⟨w6,ew⟩:∃w6,w5.alloc (.cells oZ 58)=w6:=⟨_,rfl⟩
      have hba:Below w5.heap.size w5 (w5.alloc (.cells oZ 58)):=(Below.refl _ _).alloc (Nat.le_refl _) _
      have hga:=Blk.new w5 58 oZ
      rw [ew] at hba hga
      have ew':w5.alloc (.cells #[.string ⟨#[]⟩,.int .u64 0,.int .i64 0,.int .u32 0,.int .i64 0,.int .u64 0,.slice none 0 0] 58)=w6:=ew
      rw [ew']
      have HBA:=Lh hba
      have HGA:=Lh hga
      clear hba hga ew ew'
      refine hQ.out _ _ ?_ (fun hH125=>?_)
      · exact⟨⟨cell_later HBA.out hH1.1.1,cell_later HBA.out hH1.1.2.1,cell_later HBA.out hH1.1.2.2.1,cell_later HBA.out hH1.1.2.2.2.1,cell_later HBA.out hH1.1.2.2.2.2.1,hH1.1.2.2.2.2.2.below HBA.out hH1.1.2.2.2.2.2.lt⟩,trivial⟩
      clear hQ K
      try simp only [Act.put,pA9,pZ9,pS9]
      refine wpAnyT_last 26 rfl (by kernel_rfl) (by decide) (fun K hQ=>?_)
      refine step_store_blk rfl 58 (.tmp 9) (.tmp 54) rfl w5.heap.size 58 oZ (oA ⟨⟨c.key,mA.x.last,c.size,c.sum,gr,mA.x.nep,plF.nds mA.x.next gr mA.x.n⟩,A9,c9⟩) rfl rfl HGA.out rfl Tryz.szObj rfl ?_
      intro w7 hB7 hO7
      refine hQ.out _ _ ?_ (fun hH126=>?_)
      · exact⟨cell_later (HBA.out.trans (hO7.out.below (Nat.le_refl _))) hH1.1.1,cell_later (HBA.out.trans (hO7.out.below (Nat.le_refl _))) hH1.1.2.1,cell_later (HBA.out.trans (hO7.out.below (Nat.le_refl _))) hH1.1.2.2.1,cell_later (HBA.out.trans (hO7.out.below (Nat.le_refl _))) hH1.1.2.2.2.1,cell_later (HBA.out.trans (hO7.out.below (Nat.le_refl _))) hH1.1.2.2.2.2.1,hH1.1.2.2.2.2.2.below (HBA.out.trans (hO7.out.below (Nat.le_refl _))) hH1.1.2.2.2.2.2.lt⟩
      clear hQ K
      try simp only [Act.put,pA9,pZ9,pS9]
      refine wpAnyT_done (by kernel_rfl) ?_ _
      go_wp2_with fail
      go_meet
      case rel=>exact⟨_,A9,c9,rfl,Lh ⟨Nat.le_trans DW.out.size HB9.out.size,DW.out.trans ((HB9.out.trans ((HBA.out.trans (hO7.out.below (Nat.le_refl _))).mono HB9.out.size)).mono DW.out.size),hB7.out,HO9.out.1.later (HBA.out.trans (hO7.out.below (Nat.le_refl _))),fun k hk=>HO9.out.2 k (Nat.lt_of_lt_of_le hk DW.out.size)⟩⟩
    · -- the block first
      rw [if_pos (by rfl)]
      go_simp
      obtain⟨w5,ew⟩:∃w6,wd.alloc (.cells oZ 58)=w6:=⟨_,rfl⟩
      have hba:Below wd.heap.size wd (wd.alloc (.cells oZ 58)):=(Below.refl _ _).alloc (Nat.le_refl _) _
      have hga:=Blk.new wd 58 oZ
      rw [ew] at hba hga
      have ew':wd.alloc (.cells #[.string ⟨#[]⟩,.int .u64 0,.int .i64 0,.int .u32 0,.int .i64 0,.int .u64 0,.slice none 0 0] 58)=w5:=ew
      rw [ew']
      have HBA:=Lh hba
      have HGA:=Lh hga
      clear hba hga ew ew'
      refine hQ.out _ _ ?_ (fun hH1=>?_)
      · exact⟨⟨cell_later HBA.out hH.1.1,cell_later HBA.out hH.1.2.1,cell_later HBA.out hH.1.2.2.1,cell_later HBA.out hH.1.2.2.2.1,cell_later HBA.out hH.1.2.2.2.2.1,hH.1.2.2.2.2.2.below HBA.out hH.1.2.2.2.2.2.lt⟩,trivial⟩
      clear hQ K
      try simp only [Act.put,pA9,pZ9,pS9]
      refine wpAnyT_one 23 rfl (by kernel_rfl) (fun K hQ=>?_)
      go_simp
      (go_at_call 52;refine (HND.out w5 (DW.out.trans (HBA.out.mono DW.out.size))).mono ?_;rintro e w6 ⟨v9,rfl,ho9,hb9⟩)
      obtain⟨A9,c9,rfl,h91,h92⟩:=own_slice ho9
      have HO9:=Lh (rowIn_own ho9)
      have HB9:=Lh hb9
      clear ho9 hb9
      refine hQ.out _ _ ?_ (fun hH123=>?_)
      · exact⟨⟨cell_later HB9.out hH1.1.1,cell_later HB9.out hH1.1.2.1,cell_later HB9.out hH1.1.2.2.1,cell_later HB9.out hH1.1.2.2.2.1,cell_later HB9.out hH1.1.2.2.2.2.1,hH1.1.2.2.2.2.2.below HB9.out hH1.1.2.2.2.2.2.lt⟩,trivial⟩
      clear hQ K
      try simp only [Act.put,pA9,pZ9,pS9]
      refine tS 24 rfl ?_ hH123 ?_ ?_
      rotate_left
      · (intro wx hx;obtain⟨_,_,_,_,_,_⟩:=hx;go_simp <;> with_reducible rfl)
      try simp only [Act.put,pA9,pZ9,pS9]
      refine wpAnyT_last 26 rfl (by kernel_rfl) (by decide) (fun K hQ=>?_)
      refine step_store_blk rfl 58 (.tmp 9) (.tmp 54) rfl wd.heap.size 58 oZ (oA ⟨⟨c.key,mA.x.last,c.size,c.sum,gr,mA.x.nep,plF.nds mA.x.next gr mA.x.n⟩,A9,c9⟩) rfl rfl (HGA.out.below HB9.out HGA.out.lt) rfl Tryz.szObj rfl ?_
      intro w7 hB7 hO7
      refine hQ.out _ _ ?_ (fun hH126=>?_)
      · exact⟨cell_later ((HBA.out.trans (HB9.out.mono HBA.out.size)).trans (hO7.out.below (Nat.le_refl _))) hH.1.1,cell_later ((HBA.out.trans (HB9.out.mono HBA.out.size)).trans (hO7.out.below (Nat.le_refl _))) hH.1.2.1,cell_later ((HBA.out.trans (HB9.out.mono HBA.out.size)).trans (hO7.out.below (Nat.le_refl _))) hH.1.2.2.1,cell_later ((HBA.out.trans (HB9.out.mono HBA.out.size)).trans (hO7.out.below (Nat.le_refl _))) hH.1.2.2.2.1,cell_later ((HBA.out.trans (HB9.out.mono HBA.out.size)).trans (hO7.out.below (Nat.le_refl _))) hH.1.2.2.2.2.1,hH.1.2.2.2.2.2.below ((HBA.out.trans (HB9.out.mono HBA.out.size)).trans (hO7.out.below (Nat.le_refl _))) hH.1.2.2.2.2.2.lt⟩
      clear hQ K
      try simp only [Act.put,pA9,pZ9,pS9]
      refine wpAnyT_done (by kernel_rfl) ?_ _
      go_wp2_with fail
      go_meet
      case rel=>exact⟨_,A9,c9,rfl,Lh ⟨DW.out.size,DW.out.trans (((HBA.out.trans (HB9.out.mono HBA.out.size)).trans (hO7.out.below (Nat.le_refl _))).mono DW.out.size),hB7.out,(oRow_only HO9.out.1 hO7.out (HO9.out.2 _ HGA.out.lt)),fun k hk=>HO9.out.2 k (Nat.lt_of_lt_of_le hk (Nat.le_trans DW.out.size HBA.out.size))⟩⟩
   case rest =>
    obtain⟨b9,A9,c9,rfl,HO⟩:=hcut
    clear c3 c4 c5 g13 g5 HND HGB EMZ
    have HM5:=Lh (HM4.out.later HO.out.bel)
    have HB5:=Lh (HB4.out.below HO.out.bel HB4.out.lt)
    have HR5:=Lh (HR4.out.below HO.out.bel HR4.out.lt)
    have HG5:=Lh (gb_trans HG4.out (gb_below HO.out.bel _))
    have HLT:=Lh (fun k (hk:k ∈ GG)=>HM4.out.lt k hk)
    have HB4L:=Lh (show b0+1<w4.heap.size from HR4.out.lt)
    have HNI:=Lh (show g≠b9 from by have:=HM4.out.lt g HM4.out.mem;have:=HO.out.ge;omega)
    have H9:=Lh HO.out.blk
    clear HB4 HR4 HG4
    have q1:wc.cell? ⟨b0,1,none⟩=some (.int .u64 (c.client:Int)):=(HB5.out.cell 1).trans V1.out
    have q2:wc.cell? ⟨b0,2,none⟩=some (.int .u64 (c.seq:Int)):=(HB5.out.cell 2).trans V2.out
    obtain⟨nn,enn⟩:∃nn,mA.x.ints.length=nn:=⟨_,rfl⟩
    have ENN:=Lh enn
    have hnn:nn+1≤16777216:=by rw [← enn,HXA.out];exact Nat.le_trans (Nat.succ_le_succ HL.out.il) ok.out.il
    have HIL:=Lh hnn
    clear enn
    have g9:wc.cell? ⟨g,9,none⟩=some (.slice mA.IA nn mA.ic):=(HM5.out.blk.cell 9).trans (by rw [← ENN.out];rfl)
    have HCN:=Lh (fun W (h:Below wc.heap.size wc W)=>cloneItt mA.IA nn mA.ic (mA.is.flatMap imCs) W (Lh (by have:=((HM5.out.inn.later h).rows.ints).rd;unfold MM.ints at this;rw [ENN.out] at this;exact this)) (Lh (oneItt _)) (by omega))
    go_upto_region 6 with (fail)
    go_cut [] from 55 (fun wx=>Hid (∃m',MS GG g m' wx∧m'.x={ mA.x with ints:=mA.x.ints ++ [⟨⟨c.key,mA.x.last,c.size,c.sum,gr,mA.x.nep,plF.nds mA.x.next gr mA.x.n⟩,c.client,c.seq⟩] }∧wc.grownBy wx (some g)))
    case first =>
     refine wp_region_late (S0:=fun w'=>Blk w' b9 58 (oA ⟨⟨c.key,mA.x.last,c.size,c.sum,gr,mA.x.nep,plF.nds mA.x.next gr mA.x.n⟩,A9,c9⟩)∧w'.cell? ⟨b0,1,none⟩=some (.int .u64 (c.client:Int))∧w'.cell? ⟨b0,2,none⟩=some (.int .u64 (c.seq:Int))) (S:=fun w'=>w'.cell? ⟨g,9,none⟩=some (.slice mA.IA nn mA.ic)) 18 19 (by kernel_rfl) rfl ⟨⟨H9.out.drew,q1,q2⟩,g9⟩ (fun wd hwd hH=>?_)
     have DW:=Lh (show Below wc.heap.size wc wd from by rw [hwd];exact (Below.refl _ _).drew)
     clear hwd
     have HMd:=Lh (HM5.out.later DW.out)
     refine tS 0 rfl ?_ hH ?_ ?_
     rotate_left
     · (intro wx hx;obtain⟨_,_,_⟩:=hx;go_simp <;> with_reducible rfl)
     try simp only [Act.put,pA9,pZ9,pS9]
     refine tS 1 rfl ?_ hH ?_ ?_
     rotate_left
     · (intro wx hx;obtain⟨_,_,_⟩:=hx;go_simp <;> with_reducible rfl)
     try simp only [Act.put,pA9,pZ9,pS9]
     refine tS 2 rfl ?_ hH ?_ ?_
     rotate_left
     · (intro wx hx;obtain⟨_,_,_⟩:=hx;go_simp <;> with_reducible rfl)
     try simp only [Act.put,pA9,pZ9,pS9]
     refine tS 3 rfl ?_ hH ?_ ?_
     rotate_left
     · (intro wx hx;obtain⟨_,_,_⟩:=hx;go_simp <;> with_reducible rfl)
     try simp only [Act.put,pA9,pZ9,pS9]
     refine tS 4 rfl ?_ hH ?_ ?_
     rotate_left
     · (intro wx hx;obtain⟨_,_,_⟩:=hx;go_simp <;> with_reducible rfl)
     try simp only [Act.put,pA9,pZ9,pS9]
     refine wpAnyT_take 5 (v:=?_) rfl (by kernel_rfl) (fun _ _ _ h=>h) (Or.inl ⟨by rfl,?_⟩) hH ?_
     rotate_left
     · (intro wx hx;go_simp <;> with_reducible rfl)
     try simp only [Act.put,pA9,pZ9,pS9]
     refine wpAnyT_stay 7 rfl (by kernel_rfl) (fun _ _ _ h=>h) (yields_load_blk rfl 58 (.tmp 9) rfl b9 58 #[.string (strOf c.key),.int .u64 (mA.x.last:Int),.int .i64 c.size,.int .u32 (c.sum:Int),.int .i64 gr,.int .u64 (mA.x.nep:Int),.slice A9 (plF.nds mA.x.next gr mA.x.n).length c9] _ rfl (fun w' hw'=>hw'.1) Tryz.underlying58 rfl Tryz.szObj) ⟨hH.1,fun _=>hH.2⟩ ?_
     try simp only [Act.put,pA9,pZ9,pS9]
     refine tS 8 rfl ?_ hH ?_ ?_
     rotate_left
     · (intro wx hx;obtain⟨_,_,_⟩:=hx;go_simp <;> with_reducible rfl)
     try simp only [Act.put,pA9,pZ9,pS9]
     refine tS 9 rfl ?_ hH ?_ ?_
     rotate_left
     · (intro wx hx;obtain⟨_,_,_⟩:=hx;go_simp <;> with_reducible rfl)
     try simp only [Act.put,pA9,pZ9,pS9]
     refine tS 10 rfl ?_ hH ?_ ?_
     rotate_left
     · (intro wx hx;obtain⟨_,_,_⟩:=hx;go_simp <;> with_reducible rfl)
     try simp only [Act.put,pA9,pZ9,pS9]
     refine tS 11 rfl ?_ hH ?_ ?_
     rotate_left
     · (intro wx hx;obtain⟨_,_,_⟩:=hx;go_simp <;> with_reducible rfl)
     try simp only [Act.put,pA9,pZ9,pS9]
     refine tS 12 rfl ?_ hH ?_ ?_
     rotate_left
     · (intro wx hx;obtain⟨_,_,_⟩:=hx;go_simp <;> with_reducible rfl)
     try simp only [Act.put,pA9,pZ9,pS9]
     refine wpAnyT_two 6 13 rfl rfl (by kernel_rfl) (fun K hQ=>?_) (fun K hQ=>?_)
     · -- the copy first
       rw [if_pos (by rfl)]
       go_simp
       (go_at_call 53;refine (HCN.out wd (DW.out)).mono ?_;rintro e w5 ⟨v6,rfl,ho6,hb6⟩)
       have HO6:=Lh ho6
       have HB6:=Lh hb6
       clear ho6 hb6
       refine hQ.out _ _ ?_ (fun hH1=>?_)
       · exact⟨⟨hH.1.1.below HB6.out hH.1.1.lt,cell_later HB6.out hH.1.2.1,cell_later HB6.out hH.1.2.2⟩,cell_later HB6.out hH.2⟩
       clear hQ K
       try simp only [Act.put,pA9,pZ9,pS9]
       refine wpAnyT_one 13 rfl (by kernel_rfl) (fun K hQ=>?_)
       rw [if_pos (by rfl)]
       refine wp_build1g 30 60 (.tmp 67) rfl 9 (by decide) (by decide) (iA ⟨⟨⟨c.key,mA.x.last,c.size,c.sum,gr,mA.x.nep,plF.nds mA.x.next gr mA.x.n⟩,c.client,c.seq⟩,A9,c9⟩) rfl rfl Tryz.underlying30 Tryz.bItt ?_
       obtain⟨w6,ew⟩:∃w6,w5.alloc (.cells (iA ⟨⟨⟨c.key,mA.x.last,c.size,c.sum,gr,mA.x.nep,plF.nds mA.x.next gr mA.x.n⟩,c.client,c.seq⟩,A9,c9⟩) 60)=w6:=⟨_,rfl⟩
       have hba:Below w5.heap.size w5 (w5.alloc (.cells (iA ⟨⟨⟨c.key,mA.x.last,c.size,c.sum,gr,mA.x.nep,plF.nds mA.x.next gr mA.x.n⟩,c.client,c.seq⟩,A9,c9⟩) 60)):=(Below.refl _ _).alloc (Nat.le_refl _) _
       have hga:=Blk.new w5 60 (iA ⟨⟨⟨c.key,mA.x.last,c.size,c.sum,gr,mA.x.nep,plF.nds mA.x.next gr mA.x.n⟩,c.client,c.seq⟩,A9,c9⟩)
       rw [ew] at hba hga ⊢
       have HBA:=Lh hba
       have HGA:=Lh hga
       clear hba hga ew
       refine hQ.out _ _ ?_ (fun hH113=>?_)
       · exact⟨⟨hH1.1.1.below HBA.out hH1.1.1.lt,cell_later HBA.out hH1.1.2.1,cell_later HBA.out hH1.1.2.2⟩,cell_later HBA.out hH1.2⟩
       clear hQ K
       try simp only [Act.put,pA9,pZ9,pS9]
       refine wpAnyT_one 14 rfl (by kernel_rfl) (fun K hQ=>?_)
       refine step_append rfl (.tmp 61) (.tmp 68) _ rfl wd wd.heap.size 60 _ 9 96 Tryz.underlying30 Tryz.zItt rfl (by decide) v6 nn (mA.is.flatMap imCs) rfl (ownBel HO6.out HBA.out) w6.heap.size (some ⟨w5.heap.size,0,none⟩) 1 1 (imCs ⟨⟨⟨c.key,mA.x.last,c.size,c.sum,gr,mA.x.nep,plF.nds mA.x.next gr mA.x.n⟩,c.client,c.seq⟩,A9,c9⟩) rfl (blk_reads HGA.out) (oneI1 _) (by omega) (by decide) (HB6.out.trans (HBA.out.mono HB6.out.size)) (Nat.le_trans HB6.out.size HBA.out.size) ?_
       rintro v7 w7 h7
       obtain⟨ho7,hb7,_⟩:=h7.out
       obtain⟨A10,c10,rfl,_,_⟩:=own_slice ho7
       have HO7:=Lh (rowIn_own ho7)
       have HB7:=Lh hb7
       have z0:w7.cell? ⟨g,9,none⟩=some (.slice mA.IA nn mA.ic):=cell_later hb7 hH.2
       have z1:w7.frozen? ⟨g,9,none⟩=false:=(HMd.out.blk.below hb7 HMd.out.blk.lt).frozen 9
       clear ho7 hb7 h7
       refine hQ.out _ _ ?_ (fun hH114=>?_)
       · exact⟨⟨hH.1.1.below HB7.out hH.1.1.lt,cell_later HB7.out hH.1.2.1,cell_later HB7.out hH.1.2.2⟩,cell_later HB7.out hH.2⟩
       clear hQ K
       try simp only [Act.put,pA9,pZ9,pS9]
       refine tS 15 rfl ?_ hH114 ?_ ?_
       rotate_left
       · (intro wx hx;obtain⟨_,_,_⟩:=hx;go_simp <;> with_reducible rfl)
       try simp only [Act.put,pA9,pZ9,pS9]
       refine tS 16 rfl ?_ hH114 ?_ ?_
       rotate_left
       · (intro wx hx;obtain⟨_,_,_⟩:=hx;go_simp <;> with_reducible rfl)
       try simp only [Act.put,pA9,pZ9,pS9]
       refine tS 17 rfl ?_ hH114 ?_ ?_
       rotate_left
       · (intro wx hx;obtain⟨_,_,_⟩:=hx;go_simp <;> with_reducible rfl)
       try simp only [Act.put,pA9,pZ9,pS9]
       refine wpAnyT_last 18 rfl (by kernel_rfl) (by decide) (fun K hQ=>?_)
       go_simp
       refine hQ.out _ _ ?_ (fun hH118=>?_)
       · exact⟨(hH.1.1.below HB7.out hH.1.1.lt).far (Ne.symm HNI.out) _,far_cell (by have:=HGL.out;omega) (cell_later HB7.out hH.1.2.1),far_cell (by have:=HGL.out;omega) (cell_later HB7.out hH.1.2.2)⟩
       clear hQ K
       try simp only [Act.put,pA9,pZ9,pS9]
       refine wpAnyT_done (by kernel_rfl) ?_ _
       go_wp2_with fail
       go_meet
       case rel=>exact Lh (beg_ints HMd.out DW.out HB7.out HO7.out.1 HO7.out.2 HO.out HNI.out ENN.out HIL.out hkb HLT.out)
     · -- the block first
       rw [if_pos (by rfl)]
       refine wp_build1g 30 60 (.tmp 67) rfl 9 (by decide) (by decide) (iA ⟨⟨⟨c.key,mA.x.last,c.size,c.sum,gr,mA.x.nep,plF.nds mA.x.next gr mA.x.n⟩,c.client,c.seq⟩,A9,c9⟩) rfl rfl Tryz.underlying30 Tryz.bItt ?_
       obtain⟨w5,ew⟩:∃w6,wd.alloc (.cells (iA ⟨⟨⟨c.key,mA.x.last,c.size,c.sum,gr,mA.x.nep,plF.nds mA.x.next gr mA.x.n⟩,c.client,c.seq⟩,A9,c9⟩) 60)=w6:=⟨_,rfl⟩
       have hba:Below wd.heap.size wd (wd.alloc (.cells (iA ⟨⟨⟨c.key,mA.x.last,c.size,c.sum,gr,mA.x.nep,plF.nds mA.x.next gr mA.x.n⟩,c.client,c.seq⟩,A9,c9⟩) 60)):=(Below.refl _ _).alloc (Nat.le_refl _) _
       have hga:=Blk.new wd 60 (iA ⟨⟨⟨c.key,mA.x.last,c.size,c.sum,gr,mA.x.nep,plF.nds mA.x.next gr mA.x.n⟩,c.client,c.seq⟩,A9,c9⟩)
       rw [ew] at hba hga ⊢
       have HBA:=Lh hba
       have HGA:=Lh hga
       clear hba hga ew
       refine hQ.out _ _ ?_ (fun hH1=>?_)
       · exact⟨⟨hH.1.1.below HBA.out hH.1.1.lt,cell_later HBA.out hH.1.2.1,cell_later HBA.out hH.1.2.2⟩,cell_later HBA.out hH.2⟩
       clear hQ K
       try simp only [Act.put,pA9,pZ9,pS9]
       refine wpAnyT_one 6 rfl (by kernel_rfl) (fun K hQ=>?_)
       go_simp
       (go_at_call 53;refine (HCN.out w5 (DW.out.trans (HBA.out.mono DW.out.size))).mono ?_;rintro e w6 ⟨v6,rfl,ho6,hb6⟩)
       have HO6:=Lh ho6
       have HB6:=Lh hb6
       clear ho6 hb6
       refine hQ.out _ _ ?_ (fun hH16=>?_)
       · exact⟨⟨hH1.1.1.below HB6.out hH1.1.1.lt,cell_later HB6.out hH1.1.2.1,cell_later HB6.out hH1.1.2.2⟩,cell_later HB6.out hH1.2⟩
       clear hQ K
       try simp only [Act.put,pA9,pZ9,pS9]
       refine wpAnyT_one 14 rfl (by kernel_rfl) (fun K hQ=>?_)
       refine step_append rfl (.tmp 61) (.tmp 68) _ rfl wd wd.heap.size 60 _ 9 96 Tryz.underlying30 Tryz.zItt rfl (by decide) v6 nn (mA.is.flatMap imCs) rfl (ownBas HO6.out HBA.out.size) w6.heap.size (some ⟨wd.heap.size,0,none⟩) 1 1 (imCs ⟨⟨⟨c.key,mA.x.last,c.size,c.sum,gr,mA.x.nep,plF.nds mA.x.next gr mA.x.n⟩,c.client,c.seq⟩,A9,c9⟩) rfl (blk_reads (HGA.out.below HB6.out HGA.out.lt)) (oneI1 _) (by omega) (by decide) (HBA.out.trans (HB6.out.mono HBA.out.size)) (Nat.le_trans HBA.out.size HB6.out.size) ?_
       rintro v7 w7 h7
       obtain⟨ho7,hb7,_⟩:=h7.out
       obtain⟨A10,c10,rfl,_,_⟩:=own_slice ho7
       have HO7:=Lh (rowIn_own ho7)
       have HB7:=Lh hb7
       have z0:w7.cell? ⟨g,9,none⟩=some (.slice mA.IA nn mA.ic):=cell_later hb7 hH.2
       have z1:w7.frozen? ⟨g,9,none⟩=false:=(HMd.out.blk.below hb7 HMd.out.blk.lt).frozen 9
       clear ho7 hb7 h7
       refine hQ.out _ _ ?_ (fun hH114=>?_)
       · exact⟨⟨hH.1.1.below HB7.out hH.1.1.lt,cell_later HB7.out hH.1.2.1,cell_later HB7.out hH.1.2.2⟩,cell_later HB7.out hH.2⟩
       clear hQ K
       try simp only [Act.put,pA9,pZ9,pS9]
       refine tS 15 rfl ?_ hH114 ?_ ?_
       rotate_left
       · (intro wx hx;obtain⟨_,_,_⟩:=hx;go_simp <;> with_reducible rfl)
       try simp only [Act.put,pA9,pZ9,pS9]
       refine tS 16 rfl ?_ hH114 ?_ ?_
       rotate_left
       · (intro wx hx;obtain⟨_,_,_⟩:=hx;go_simp <;> with_reducible rfl)
       try simp only [Act.put,pA9,pZ9,pS9]
       refine tS 17 rfl ?_ hH114 ?_ ?_
       rotate_left
       · (intro wx hx;obtain⟨_,_,_⟩:=hx;go_simp <;> with_reducible rfl)
       try simp only [Act.put,pA9,pZ9,pS9]
       refine wpAnyT_last 18 rfl (by kernel_rfl) (by decide) (fun K hQ=>?_)
       go_simp
       refine hQ.out _ _ ?_ (fun hH118=>?_)
       · exact⟨(hH.1.1.below HB7.out hH.1.1.lt).far (Ne.symm HNI.out) _,far_cell (by have:=HGL.out;omega) (cell_later HB7.out hH.1.2.1),far_cell (by have:=HGL.out;omega) (cell_later HB7.out hH.1.2.2)⟩
       clear hQ K
       try simp only [Act.put,pA9,pZ9,pS9]
       refine wpAnyT_done (by kernel_rfl) ?_ _
       go_wp2_with fail
       go_meet
       case rel=>exact Lh (beg_ints HMd.out DW.out HB7.out HO7.out.1 HO7.out.2 HO.out HNI.out ENN.out HIL.out hkb HLT.out)
    case rest =>
     have hcc:=hcut.out
     clear hcut
     obtain⟨m6,hm6,hx6,hgb6⟩:=hcc
     have HM6:=Lh hm6
     have HX6:=Lh hx6
     have HB6:=Lh (HB5.out.gb hgb6 (Nat.ne_of_gt HGL.out))
     have HR6:=Lh (HR5.out.gb hgb6 (by have:=HGL.out;omega))
     have H96:=Lh (H9.out.gb hgb6 (Ne.symm HNI.out))
     have HRW6:=Lh (HO.out.row.grown (HO.out.off g (HLT.out g HM5.out.mem)) hgb6)
     have HG6:=Lh (gb_trans HG5.out hgb6)
     have HSS:=Lh (show Ris natO SesT.client m6.x.sess from by rw [hx6];show Ris natO SesT.client mA.x.sess;rw [HXA.out,HL.out.sess];exact ok.out.rs)
     have HSL:=Lh (show m6.x.sess.length+1≤16777216 from by rw [hx6];show mA.x.sess.length+1≤_;rw [HXA.out,HL.out.sess];exact ok.out.sl)
     clear hm6 hx6 hgb6 q1 q2 g9 HCN HB5 HR5 H9 HG5
     have q1:=(HB6.out.cell 1).trans V1.out
     have q2:=(HB6.out.cell 2).trans V2.out
     have q3:=H96.out.cell 1
     rw [show (oA (⟨⟨c.key,mA.x.last,c.size,c.sum,gr,mA.x.nep,plF.nds mA.x.next gr mA.x.n⟩,A9,c9⟩:OM))[1]?=some (.int .u64 (mA.x.last:Int)) from rfl] at q3
     go_upto_region 8 with (go_at_call 54;refine (remember_any GG g m6 ⟨c.client,c.seq,true,mA.x.last,0⟩ _ HM6 HSS HSL.out).mono ?_;rintro e w8 ⟨rfl,hgb,m8,hm8,hx8⟩;have HGB8:=Lh hgb;have HM8:=Lh hm8;have HX8:=Lh hx8;have HR8:=Lh (HR6.out.gb hgb (by have:=HGL.out;omega));have H98:=Lh (H96.out.gb hgb (Ne.symm HNI.out));have HRW8:=Lh (HRW6.out.grown (HO.out.off g (HLT.out g HM5.out.mem)) hgb);clear hgb hm8 hx8 q1 q2 q3)
     have hl9:=nodesR_lenP mA.x.nem gr mA.x.n
     have HCL:=Lh (fun W (h:Below w8.heap.size w8 W)=>cloneI64 A9 (plF.nds mA.x.next gr mA.x.n).length c9 ((plF.nds mA.x.next gr mA.x.n).map iv) W (Lh (HRW8.out.later h).rd) (Lh (fun u hu=>by obtain⟨x,_,rfl⟩:=List.mem_map.1 hu;rfl)) (show (nodesR mA.x.nem gr mA.x.n).1.length≤_ by omega))
     have o1:w8.cell? ⟨b9,1,none⟩=some (.int .u64 (mA.x.last:Int)):=(H98.out.cell 1).trans rfl
     have o5:w8.cell? ⟨b9,5,none⟩=some (.int .u64 (mA.x.nep:Int)):=(H98.out.cell 5).trans rfl
     have o6:w8.cell? ⟨b9,6,none⟩=some (.slice A9 (plF.nds mA.x.next gr mA.x.n).length c9):=(H98.out.cell 6).trans rfl
     refine wp_region_late (S0:=fun w'=>w'.cell? ⟨b9,1,none⟩=some (.int .u64 (mA.x.last:Int))∧w'.cell? ⟨b9,5,none⟩=some (.int .u64 (mA.x.nep:Int))∧w'.cell? ⟨b9,6,none⟩=some (.slice A9 (plF.nds mA.x.next gr mA.x.n).length c9)) (S:=fun _=>True) 8 9 (by kernel_rfl) rfl ⟨⟨o1,o5,o6⟩,trivial⟩ (fun wd hwd hH=>?_)
     have DW:=Lh (show Below w8.heap.size w8 wd from by rw [hwd];exact (Below.refl _ _).drew)
     clear hwd
     refine tS 0 rfl ?_ hH ?_ ?_
     rotate_left
     · (intro wx hx;obtain⟨_,_,_⟩:=hx;go_simp <;> with_reducible rfl)
     try simp only [Act.put,pA9,pZ9,pS9]
     refine tS 1 rfl ?_ hH ?_ ?_
     rotate_left
     · (intro wx hx;obtain⟨_,_,_⟩:=hx;go_simp <;> with_reducible rfl)
     try simp only [Act.put,pA9,pZ9,pS9]
     refine tS 2 rfl ?_ hH ?_ ?_
     rotate_left
     · (intro wx hx;obtain⟨_,_,_⟩:=hx;go_simp <;> with_reducible rfl)
     try simp only [Act.put,pA9,pZ9,pS9]
     refine tS 3 rfl ?_ hH ?_ ?_
     rotate_left
     · (intro wx hx;obtain⟨_,_,_⟩:=hx;go_simp <;> with_reducible rfl)
     try simp only [Act.put,pA9,pZ9,pS9]
     refine tS 5 rfl ?_ hH ?_ ?_
     rotate_left
     · (intro wx hx;obtain⟨_,_,_⟩:=hx;go_simp <;> with_reducible rfl)
     try simp only [Act.put,pA9,pZ9,pS9]
     refine tS 6 rfl ?_ hH ?_ ?_
     rotate_left
     · (intro wx hx;obtain⟨_,_,_⟩:=hx;go_simp <;> with_reducible rfl)
     try simp only [Act.put,pA9,pZ9,pS9]
     refine wpAnyT_one 4 rfl (by kernel_rfl) (fun K hQ=>?_)
     go_simp
     (go_at_call 31;refine (HCL.out wd DW.out).mono ?_;rintro e w20 ⟨v20,rfl,ho20,hb20⟩)
     obtain⟨A20,c20,rfl,_,_⟩:=own_slice ho20
     have HO20:=Lh (rowIn_own ho20)
     have HB20:=Lh hb20
     clear ho20 hb20
     refine hQ.out _ _ ?_ (fun hH4=>?_)
     · exact⟨⟨cell_later HB20.out hH.1.1,cell_later HB20.out hH.1.2.1,cell_later HB20.out hH.1.2.2⟩,trivial⟩
     clear hQ K
     try simp only [Act.put,pA9,pZ9,pS9]
     refine tS 7 rfl ?_ hH4 ?_ ?_
     rotate_left
     · (intro wx hx;obtain⟨_,_,_⟩:=hx;go_simp <;> with_reducible rfl)
     try simp only [Act.put,pA9,pZ9,pS9]
     refine wpAnyT_last 8 rfl (by kernel_rfl) (by decide) (fun K hQ=>?_)
     refine step_store_blk rfl 39 (.tmp 4) (.tmp 89) rfl (b0+1) 39 rZ (rcs ⟨0,mA.x.last,plF.nds mA.x.next gr mA.x.n,mA.x.nep⟩ A20 c20) rfl rfl (HR8.out.below (DW.out.trans (HB20.out.mono DW.out.size)) HR8.out.lt) rfl Tryz.szR rfl ?_
     intro w21 hB21 hO21
     refine hQ.out _ _ ?_ (fun hH8=>?_)
     · exact⟨(hO21.out.cell (by show b9≠b0+1;have:=HO.out.ge;have:=HB4L.out;omega)).trans (cell_later HB20.out hH.1.1),(hO21.out.cell (by show b9≠b0+1;have:=HO.out.ge;have:=HB4L.out;omega)).trans (cell_later HB20.out hH.1.2.1),(hO21.out.cell (by show b9≠b0+1;have:=HO.out.ge;have:=HB4L.out;omega)).trans (cell_later HB20.out hH.1.2.2)⟩
     clear hQ K
     try simp only [Act.put,pA9,pZ9,pS9]
     refine wpAnyT_done (by kernel_rfl) ?_ _
     go_wp2_with fail
     have HBF:=HB20.out.mono DW.out.size
     have HB82:=DW.out.trans HBF
     have HMF:=HM8.out.later HB82
     rw [← EGG.out] at HMF
     have HTF:=TurnM.mk (gb_fresh (gb_trans (gb_trans HG6.out HGB8.out) (gb_below HB82 _)) hO21.out (by rw [E0.out];omega)) (HMF.sub hO21.out (by have:=HGL.out;omega) HGG.out) rfl
     refine bodyPost_ret (res_c Tryz.results20 rfl (load_blk hB21.out Tryz.underlying39 rfl Tryz.szR)) rfl ?_
     refine ret_eq (p:=(m8.x,⟨0,mA.x.last,plF.nds mA.x.next gr mA.x.n,mA.x.nep⟩)) ?_ ⟨⟨A20,c20,rfl,?_⟩,HTF⟩
     · unfold beginM
       rw [HA.out,HX8.out,HX6.out,← EGR.out,← HXA.out]
       rfl
     · exact HO20.out.1.grown (HO20.out.2 _ (Nat.lt_of_lt_of_le HR8.out.lt DW.out.size)) (gb_only hO21.out)
end
end Go.Proofs.YtdoneomahlfkbaaGreat
