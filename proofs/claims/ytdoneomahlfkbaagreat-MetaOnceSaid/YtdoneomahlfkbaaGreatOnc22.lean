/- STATES THAT MAY BE: the program says so. (printed by gen_mek6.py). (joined out of MeK6 by shake.py) -/
import Derived.Maps.OwnSet
import Derived.Test.YtdoneomahlfkbaaGreatOnc21
set_option linter.unusedVariables false
set_option linter.unusedSimpArgs false
set_option maxRecDepth 100000
set_option maxHeartbeats 16000000
namespace Go.Proofs.YtdoneomahlfkbaaGreat
section
open Go.RowKit OctMath StrMath PlMath
def uk (v:Nat):Lit := .int .u64 (v:Int)
theorem uk_ne {a b:Nat} (h:a≠b):uk a≠uk b:=fun e=>h (by unfold uk at e;injection e with _ e;omega)
theorem uk_wf {v:Nat} (h:v<18446744073709551616):(Lit.int .u64 (v:Int)).wf=true:=by
 simp only [Lit.wf,IntKind.min,IntKind.max,IntKind.signed,IntKind.bits]
 simp
 omega
structure SeenS (w1:World) (bm:Nat) (l:List Nat) (wr:World):Prop where
 bel:Below w1.heap.size w1 wr
 hb:w1.heap.size≤bm
 mp:∃D:DataW Unit,wr.ownsMap Tryz.prog 24 (plainElem Tryz.prog 3) bm l.length D∧Go.Maps.Tidy D∧Go.Maps.size D=l.length∧∀v:Nat,Go.Maps.has D (uk v)=decide (v ∈ l)
theorem SeenS.later {w1 wr wr':World} {bm:Nat} {l:List Nat} (h:SeenS w1 bm l wr) (hb:Below wr.heap.size wr wr'):SeenS w1 bm l wr':=by
 obtain⟨D,h1,h2⟩:=h.mp
 exact⟨h.bel.trans (hb.mono h.bel.size),h.hb,D,h1.kept (gb_below hb none) (by simp),h2⟩
theorem lawU64:Go.Maps.Keyed Tryz.prog 24:=Go.Maps.int_keyed Tryz.underlying24
theorem wpl_look0 {ops:Array Oper} {rest:List Oper} {o:Oper} {a:Act} {Q:Exit→Act→World→Prop} {w w1:World} {bm:Nat} {l:List Nat} (hg:o.guard=none) (m x:Operand) (hop:o.op=Op.lookup 98 m x false)
 (hS:SeenS w1 bm l w) (v:Nat) (hv:v ∉ l) (hm:a.eval m = .map (some bm)) (hx:a.eval x = .int .u64 (v:Int)) (wk:v<18446744073709551616)
 (h:wpList Tryz.prog ops Q rest (a.put o.dst (.int .i64 0)) w):wpList Tryz.prog ops Q (o :: rest) a w:=by
 obtain⟨D,h1,_,_,h4⟩:=hS.mp
 refine wpList_lookup_own_int w hg m x 98 hop 24 3 .i64 lawU64 Tryz.underlying98 Tryz.underlying3 (zeroInt w) bm l.length D hm h1 (.int .u64 (v:Int)) (uk v) hx (Go.Maps.keyOf_int_mk Tryz.underlying24 (uk_wf wk)) ?_
 intro c hat _
 have hh:Go.Maps.has D (uk v)=false:=by rw [h4];exact decide_eq_false hv
 rw [Go.Maps.atKey_of_not_has hh] at hat
 have hc:(0:Int)=c:=by injection hat with hat;injection hat
 rw [← hc]
 exact h
theorem wpl_upd1 {ops:Array Oper} {rest:List Oper} {o:Oper} {a:Act} {Q:Exit→Act→World→Prop} {w w1:World} {bm:Nat} {l:List Nat} (hg:o.guard=none) (m x y:Operand) (hop:o.op=Op.mapUpdate 98 m x y)
 (hS:SeenS w1 bm l w) (v:Nat) (hv:v ∉ l) (hl:l.length≤67108864) (hm:a.eval m = .map (some bm)) (hx:a.eval x = .int .u64 (v:Int)) (hy:a.eval y = .int .i64 1) (wk:v<18446744073709551616)
 (h:∀w',Hid (SeenS w1 bm (l ++ [v]) w')→Hid (w.grownBy w' (some bm))→wpList Tryz.prog ops Q rest (a.put o.dst undef) w'):wpList Tryz.prog ops Q (o :: rest) a w:=by
 obtain⟨D,h1,h2,h3,h4⟩:=hS.mp
 have hh:Go.Maps.has D (uk v)=false:=by rw [h4];exact decide_eq_false hv
 refine wpList_mapUpdate_own w hg m x y 98 hop 24 3 lawU64 Tryz.underlying98 _ bm l.length D hm h1 (by unfold maxLen;omega) (.int .u64 (v:Int)) (.int .i64 1) (uk v) hx hy (Go.Maps.keyOf_int_mk Tryz.underlying24 (uk_wf wk)) (.lit (.int .i64 1)) [] (plainElem_int Tryz.underlying3 (by decide)) ?_
 intro w' k1 k2
 refine h w' (Lh ⟨gb_new hS.bel hS.hb hS.bel.size k2,hS.hb,_,by rw [List.length_append];exact k1,h2.put (by trivial) _,?_,fun u=>?_⟩) (Lh k2)
 · rw [Go.Maps.size_put h2,hh,List.length_append,h3]
   rfl
 · by_cases e:u=v
   · subst e
     rw [Go.Maps.has_put_same h2.isMap (by trivial)]
     exact (decide_eq_true (by simp)).symm
   · rw [Go.Maps.has_put_other (uk_ne e),h4]
     simp [e]
theorem nodup_take {l:List Nat} (h:l.Nodup) {k:Nat} {v:Nat} (hv:l[k]?=some v):v ∉ l.take k∧l.take (k+1)=l.take k ++ [v]:=by
 obtain⟨hk,e⟩:=List.getElem?_eq_some_iff.1 hv
 have h2:l.take (k+1)=l.take k ++ [v]:=by rw [List.take_succ_eq_append_getElem hk,e]
 refine⟨fun hm=>?_,h2⟩
 have h3:(l.take (k+1)).Nodup:=h.sublist (List.take_sublist _ _)
 rw [h2,List.nodup_append] at h3
 exact h3.2.2 v hm v (by simp) rfl
theorem may_true (m:MM) (w:World) (hI:Hid (MIn m w)) (hS:Hid (MSt m)) (hla:m.x.last<18446744073709551616) :
 Calls Tryz.prog 17 #[.agg m.cs] w fun e w'=>e = .returned (.bool true)∧Below w.heap.size w w':=by
 obtain⟨V,eV⟩:∃V,m.os.map (fun o=>o.x.version) ++ m.is.map (fun o=>o.x.obj.version)=V:=⟨_,rfl⟩
 obtain⟨no,eno⟩:∃x,m.x.objs.length=x:=⟨_,rfl⟩
 obtain⟨ni,eni⟩:∃x,m.x.ints.length=x:=⟨_,rfl⟩
 obtain⟨nd,end_⟩:∃x,m.x.down.length=x:=⟨_,rfl⟩
 obtain⟨OA,eOA⟩:∃x,m.OA=x:=⟨_,rfl⟩
 obtain⟨IA,eIA⟩:∃x,m.IA=x:=⟨_,rfl⟩
 obtain⟨DA,eDA⟩:∃x,m.DA=x:=⟨_,rfl⟩
 have hno:no≤16777216:=by rw [← eno];exact hI.out.wf.ol
 have hni:ni≤16777216:=by rw [← eni];exact hI.out.wf.il
 have hnd:nd≤16777216:=by rw [← end_];exact hI.out.wf.dl
 have HLno:=Lh (show m.os.length=no from by rw [← eno];exact hI.out.olen)
 have HLni:=Lh (show m.is.length=ni from by rw [← eni];exact hI.out.ilen)
 have HLND:=Lh end_
 have HVL:=Lh (show V.length=no+ni from by rw [← eV,List.length_append,List.length_map,List.length_map,HLno.out,HLni.out])
 have HVN:=Lh (show V.Nodup from by
  have h:=hS.out.may.vers
  rw [← hI.out.os,← hI.out.is,List.map_map,List.map_map] at h
  rw [← eV]
  exact h)
 have HV1:=Lh (show ∀k (h:k<m.os.length),V[k]?=some m.os[k].x.version from fun k h=>by
  rw [← eV,List.getElem?_append_left (by rw [List.length_map];exact h),List.getElem?_map,List.getElem?_eq_getElem h]
  rfl)
 have HV2:=Lh (show ∀k (h:k<m.is.length),V[no+k]?=some m.is[k].x.obj.version from fun k h=>by
  rw [← eV,List.getElem?_append_right (by rw [List.length_map,HLno.out];omega),List.length_map,HLno.out,show no+k - no=k by omega,List.getElem?_map,List.getElem?_eq_getElem h]
  rfl)
 have HFO:=Lh (show ∀o ∈ m.os,((oRow o).In w∧FitM plF m.x o.x)∧o.x.version<18446744073709551616 from fun o ho=>by
  have hf:=hS.out.may.fitO o.x (obj_mem hI.out ho)
  exact⟨⟨hI.out.rows.os o ho,hf⟩,Nat.lt_of_le_of_lt hf.last hla⟩)
 have HFI:=Lh (show ∀o ∈ m.is,((oRow (toO o)).In w∧FitM plF m.x (toO o).x)∧o.x.obj.version<18446744073709551616 from fun o ho=>by
  have hf:=hS.out.may.fitI o.x (int_mem hI.out ho)
  exact⟨⟨hI.out.rows.is o ho,hf⟩,Nat.lt_of_le_of_lt hf.last hla⟩)
 clear eV
 have HRno:=Lh (show Reads w w.heap.size 7 OA no (m.os.flatMap omCs) from by have:=hI.out.rows.objs.rd;unfold MM.objs at this;rw [eno,eOA] at this;exact this)
 have HRni:=Lh (show Reads w w.heap.size 9 IA ni (m.is.flatMap imCs) from by have:=hI.out.rows.ints.rd;unfold MM.ints at this;rw [eni,eIA] at this;exact this)
 have HRD:=Lh (show Reads w w.heap.size 1 DA nd (m.x.down.map iv) from by have hr:=hI.out.rows.down.rd;unfold MM.down at hr;rw [end_,flat_i1,eDA] at hr;exact hr)
 have HMP:=Lh (fun W (h:Below w.heap.size w W)=>maps_true m W (Lh (hI.out.later h)) hS)
 have HSS:=Lh (fun W (h:Below w.heap.size w W)=>sessions_true m W (Lh (hI.out.later h)) hS)
 have R1:=Lh (fun W (h:Below w.heap.size w W)=>rsObj OA no m.oc m.os W (Lh (HRno.out.later h)) HLno (by omega) (Lh (ris_map (o:=bytO) (key:=ObjT.key) (fun o:OM=>o.x) (by rw [hI.out.os];exact hS.out.may.objs))) (Lh hI.out.okeys))
 have R2:=Lh (fun W (h:Below w.heap.size w W)=>rsItt IA ni m.ic m.is W (Lh (HRni.out.later h)) HLni (by omega) (Lh (ris_map (o:=natO) (key:=verI) (fun o:IM=>o.x) (by rw [hI.out.is];exact hS.out.may.ints))))
 have R3:=Lh (fun W (h:Below w.heap.size w W)=>rsSes m.SA m.x.sess.length m.sc m.x.sess W (Lh (hI.out.later h).rows.sess.rd) (Lh rfl) (by have:=hI.out.wf.sl;omega) (Lh hS.out.may.sess))
 have R4:=Lh (fun W (h:Below w.heap.size w W)=>rsWas m.WA m.x.wass.length m.wc m.x.wass W (Lh (hI.out.later h).rows.wass.rd) (Lh rfl) (by have:=hI.out.wf.wl;omega) (Lh hS.out.may.wass))
 have R5:=Lh (fun W (h:Below w.heap.size w W)=>rsI64 DA nd m.dc m.x.down W (Lh (by have hr:=(hI.out.later h).rows.down.rd;unfold MM.down at hr;rw [end_,eDA] at hr;exact hr)) (Lh end_) (by omega) (Lh hS.out.may.down))
 have HTO:=Lh (fun o (ho:o ∈ m.os) W (h:Below w.heap.size w W)=>fits_true m o W (Lh (hI.out.later h)) hS (Lh ((HFO.out o ho).1.1.later h)) (Lh (HFO.out o ho).1.2))
 have HTI:=Lh (fun o (ho:o ∈ m.is) W (h:Below w.heap.size w W)=>fits_true m (toO o) W (Lh (hI.out.later h)) hS (Lh ((HFI.out o ho).1.1.later h)) (Lh (HFI.out o ho).1.2))
 obtain⟨cs,ecs⟩:∃cs,m.cs=cs:=⟨_,rfl⟩
 have V8:=Lh (show cs[8]?=some (.slice OA no m.oc) from by rw [← ecs,← eOA,← eno];rfl)
 have V9:=Lh (show cs[9]?=some (.slice IA ni m.ic) from by rw [← ecs,← eIA,← eni];rfl)
 have V10:=Lh (show cs[10]?=some (.slice m.SA m.x.sess.length m.sc) from by rw [← ecs];rfl)
 have V11:=Lh (show cs[11]?=some (.slice m.WA m.x.wass.length m.wc) from by rw [← ecs];rfl)
 have V12:=Lh (show cs[12]?=some (.slice DA nd m.dc) from by rw [← ecs,← eDA,← end_];rfl)
 have HCS:=Lh (show cs.size=14 from by rw [← ecs];rfl)
 have HCO:=Lh (show cs.toList.all (·.oneCell')=true from by rw [← ecs];rfl)
 rw [ecs] at HMP HSS HTO HTI
 rw [ecs]
 clear ecs eOA eIA eDA eno eni end_
 have hmm := @run_makeMap Tryz.prog
 go_enter Tryz.func17,Tryz.ntmps17
 go_upto_region 1 with (fail)
 have hB:=Blk.new w 34 cs
 have hb0:Below w.heap.size w (w.alloc (.cells cs 34)):=(Below.refl _ _).alloc (Nat.le_refl _) _
 obtain⟨w1,ew1⟩:∃w1,w.alloc (.cells cs 34)=w1:=⟨_,rfl⟩
 rw [ew1] at hB hb0 ⊢
 have HB:=Lh hB
 have HB0:=Lh hb0
 clear ew1 hB hb0
 obtain⟨b0,e0⟩:∃b0,w.heap.size=b0:=⟨_,rfl⟩
 have E0:=Lh e0
 rw [e0] at HB ⊢
 clear e0
 have HC:=Lh (fun W (h:Below w1.heap.size w1 W)=>HB.out.below h HB.out.lt)
 go_upto_region 5 with (first
  | (refine wpl_load_blk rfl 34 (.tmp 1) rfl b0 34 cs _ rfl HB.out Tryz.underlying34 rfl (by rw [HCS.out];exact Tryz.szSt) ?_)
  | (go_at_call 34;refine (HMP.out w1 HB0.out).mono ?_;rintro e w2 ⟨rfl,hb2⟩;have B2:=Lh hb2;have k8:=((HC.out w2 B2.out).cell 8).trans V8.out;clear hb2)
  | (go_at_call 35;refine (R1.out w2 (HB0.out.trans (B2.out.mono HB0.out.size))).mono ?_;rintro e w3 ⟨rfl,hb3⟩;have B3:=Lh (B2.out.trans (hb3.mono B2.out.size));clear hb3 k8;have k9:=((HC.out w3 B3.out).cell 9).trans V9.out)
  | (go_at_call 38;refine (R2.out w3 (HB0.out.trans (B3.out.mono HB0.out.size))).mono ?_;rintro e w4 ⟨rfl,hb4⟩;have B4:=Lh (B3.out.trans (hb4.mono B3.out.size));clear hb4 k9;have k10:=((HC.out w4 B4.out).cell 10).trans V10.out)
  | (go_at_call 41;refine (R3.out w4 (HB0.out.trans (B4.out.mono HB0.out.size))).mono ?_;rintro e w5 ⟨rfl,hb5⟩;have B5:=Lh (B4.out.trans (hb5.mono B4.out.size));clear hb5 k10;have k11:=((HC.out w5 B5.out).cell 11).trans V11.out)
  | (go_at_call 43;refine (R4.out w5 (HB0.out.trans (B5.out.mono HB0.out.size))).mono ?_;rintro e w6 ⟨rfl,hb6⟩;have B6:=Lh (B5.out.trans (hb6.mono B5.out.size));clear hb6 k11;have k12:=((HC.out w6 B6.out).cell 12).trans V12.out)
  | (go_at_call 45;refine (R5.out w6 (HB0.out.trans (B6.out.mono HB0.out.size))).mono ?_;rintro e w7 ⟨rfl,hb7⟩;have B7:=Lh (B6.out.trans (hb7.mono B6.out.size));clear hb7 k12))
 clear HMP R1 R2 R3 R4 R5 V10 V11 B2 B3 B4 B5 B6
 have k12:=((HC.out w7 B7.out).cell 12).trans V12.out
 by_cases hd0:nd=0
 · have f1:decide ((nd:Int)>0)=false:=decide_eq_false (by omega)
   have f2:decide (0<(nd:Int))=false:=decide_eq_false (by omega)
   have f3:decide (0<nd)=false:=decide_eq_false (by omega)
   clear hd0
   go_upto_region 8 with (fail)
   clear f1 f2 f3 k12
   go_upto_region 9 with (fail)
   have hown:=World.ownsMap_made (H:=Unit) w7 Tryz.prog 24 (plainElem Tryz.prog 3)
   have HS0:=Lh (show SeenS w1 w7.heap.size [] (w7.alloc (.map #[] 0)) from ⟨B7.out.alloc B7.out.size _,B7.out.size,_,hown,Go.Maps.tidy_empty,rfl,fun v=>by simp [Go.Maps.has_eq]⟩)
   clear hown
   obtain⟨w8,ew8⟩:∃w8,w7.alloc (.map #[] 0)=w8:=⟨_,rfl⟩
   rw [ew8] at HS0 ⊢
   clear ew8
   obtain⟨bm,ebm⟩:∃bm,w7.heap.size=bm:=⟨_,rfl⟩
   rw [ebm] at HS0 ⊢
   clear ebm
   have k8:=((HC.out w8 HS0.out.bel).cell 8).trans V8.out
   go_wp2_with fail
   clear k8
   go_loopw [65] (fun vi wr=>∃k:Nat,k≤no∧vi = .int .i64 k∧Hid (SeenS w1 bm (V.take k) wr)) (fun vi _=>no - (intOf vi).toNat)
   case atStart=>exact⟨0,by omega,rfl,Lh (by rw [List.take_zero];exact HS0.out)⟩
   case round =>
    obtain⟨k,hk,rfl,HS⟩:=hrel
    by_cases hlt:k<no
    · have hmsl:k<m.os.length:=by have:=HLno.out;omega
      have HB0k:=Lh (HB0.out.trans (HS.out.bel.mono HB0.out.size))
      obtain⟨ad,rfl,hadb,hcell⟩:=elem_cells (cells:=omCs) (K:=7) (fun _=>rfl) (HRno.out.later HB0k.out) hmsl (by omega)
      have hmem:m.os[k] ∈ m.os:=List.getElem_mem hmsl
      have hvk:=HV1.out k hmsl
      obtain⟨o,eo⟩:∃o,m.os[k]=o:=⟨_,rfl⟩
      rw [eo] at hcell hmem hvk
      have HC1:=Lh hcell
      have HME:=Lh hmem
      obtain⟨hnv,htk⟩:=nodup_take HVN.out hvk
      have HNV:=Lh hnv
      have HTK:=Lh htk
      have HVB:=Lh (HFO.out o hmem).2
      have HTL:=Lh (show (V.take k).length≤67108864 from by rw [List.length_take];have:=HVL.out;omega)
      clear hmsl hadb eo hcell hmem hvk hnv htk
      obtain⟨b4,e4⟩:∃b4,wr.heap.size=b4:=⟨_,rfl⟩
      have E4:=Lh e4
      clear e4
      have HBM:=Lh (show bm<b4 from by obtain⟨D,h1,_⟩:=HS.out.mp;rw [← E4.out];exact h1.lt)
      obtain⟨vv,evv⟩:∃vv,o.x.version=vv:=⟨_,rfl⟩
      rw [evv] at HNV HTK HVB
      have W1:=Lh (show (oA o)[1]?=some (.int .u64 (vv:Int)) from by rw [← evv];rfl)
      clear evv
      go_wp2_with (first
       | (refine wpl_load_at rfl 58 (.tmp 67) rfl (ad.add (k*7)) (omCs o) _ rfl HC1.out Tryz.underlying58 rfl rfl ?_)
       | (refine wpl_store_blk rfl 58 (.tmp 6) (.tmp 68) rfl wr.heap.size 58 oZ (oA o) rfl rfl (Blk.new wr _ _) rfl Tryz.szObj rfl ?_;intro w4 hB4 hO4;have HT4:=Lh (show Blk w4 b4 58 (oA o) from by rw [← E4.out];exact hB4.out);have HB4:=Lh (show Below wr.heap.size wr w4 from ((Below.refl _ _).alloc (Nat.le_refl _) _).trans (hO4.out.below (Nat.le_refl _)));have HS4:=Lh (HS.out.later HB4.out);have y1:=(HT4.out.cell 1).trans W1.out;rw [E4.out];clear hB4 hO4)
       | (refine wpl_look0 rfl _ _ rfl HS4.out vv HNV.out rfl rfl HVB.out ?_)
       | (refine wpl_upd1 rfl _ _ _ rfl HS4.out vv HNV.out HTL.out rfl rfl rfl HVB.out ?_;intro w5 hS5 hG5;have HS5:=Lh (show SeenS w1 bm (V.take (k+1)) w5 from by rw [HTK.out];exact hS5.out);have HT5:=Lh (HT4.out.grown hG5.out (fun e=>by have h9:=Option.some.inj e;have:=HBM.out;omega));have HB5:=Lh (HB.out.below HS5.out.bel HB.out.lt);clear hS5 hG5 y1)
       | (refine wpl_load_blk rfl 34 (.tmp 1) rfl b0 34 cs _ rfl HB5.out Tryz.underlying34 rfl (by rw [HCS.out];exact Tryz.szSt) ?_)
       | (refine wpl_load_blk rfl 58 (.tmp 6) rfl b4 58 (oA o) _ rfl HT5.out Tryz.underlying58 rfl Tryz.szObj ?_)
       | (go_at_call 47;refine (HTO.out o HME.out w5 (HB0.out.trans (HS5.out.bel.mono HB0.out.size))).mono ?_;rintro e w6 ⟨rfl,hb6⟩;have HS6:=Lh (HS5.out.later hb6);clear hb6))
      exact⟨⟨k+1,by omega,by go_num,HS6⟩,by simp [intOf];omega⟩
    · obtain rfl:no=k:=by omega
      have k9:=((HC.out wr HS.out.bel).cell 9).trans V9.out
      go_wp2_with fail
      obtain⟨we,hwe⟩:∃we,we=wr:=⟨_,rfl⟩
      subst hwe
      clear k9
      go_loopw [82] (fun vi wr=>∃k:Nat,k≤ni∧vi = .int .i64 k∧Hid (SeenS w1 bm (V.take (no+k)) wr)) (fun vi _=>ni - (intOf vi).toNat)
      case atStart=>exact⟨0,by omega,rfl,Lh HS.out⟩
      case round =>
       obtain⟨k,hk,rfl,HS⟩:=hrel
       by_cases hlt:k<ni
       · have hmsl:k<m.is.length:=by have:=HLni.out;omega
         have HB0k:=Lh (HB0.out.trans (HS.out.bel.mono HB0.out.size))
         obtain⟨ad,rfl,hadb,hcell⟩:=elem_cells (cells:=imCs) (K:=9) (fun _=>rfl) (HRni.out.later HB0k.out) hmsl (by omega)
         have hmem:m.is[k] ∈ m.is:=List.getElem_mem hmsl
         have hvk:=HV2.out k hmsl
         obtain⟨o,eo⟩:∃o,m.is[k]=o:=⟨_,rfl⟩
         rw [eo] at hcell hmem hvk
         have HC1:=Lh hcell
         have HME:=Lh hmem
         obtain⟨hnv,htk⟩:=nodup_take HVN.out hvk
         have HNV:=Lh hnv
         have HTK:=Lh htk
         have HVB:=Lh (HFI.out o hmem).2
         have HTL:=Lh (show (V.take (no+k)).length≤67108864 from by rw [List.length_take];have:=HVL.out;omega)
         clear hmsl hadb eo hcell hmem hvk hnv htk
         obtain⟨b4,e4⟩:∃b4,wr.heap.size=b4:=⟨_,rfl⟩
         have E4:=Lh e4
         clear e4
         have HBM:=Lh (show bm<b4 from by obtain⟨D,h1,_⟩:=HS.out.mp;rw [← E4.out];exact h1.lt)
         obtain⟨vv,evv⟩:∃vv,o.x.obj.version=vv:=⟨_,rfl⟩
         rw [evv] at HNV HTK HVB
         have W1:=Lh (show (iA o)[1]?=some (.int .u64 (vv:Int)) from by rw [← evv];rfl)
         clear evv
         go_wp2_with (first
          | (refine wpl_load_at rfl 60 (.tmp 84) rfl (ad.add (k*9)) (imCs o) _ rfl HC1.out Tryz.underlying60 rfl rfl ?_)
          | (refine wpl_store_blk rfl 60 (.tmp 8) (.tmp 85) rfl wr.heap.size 60 iZ (iA o) rfl rfl (Blk.new wr _ _) rfl Tryz.szIt rfl ?_;intro w4 hB4 hO4;have HT4:=Lh (show Blk w4 b4 60 (iA o) from by rw [← E4.out];exact hB4.out);have HB4:=Lh (show Below wr.heap.size wr w4 from ((Below.refl _ _).alloc (Nat.le_refl _) _).trans (hO4.out.below (Nat.le_refl _)));have HS4:=Lh (HS.out.later HB4.out);have y1:=(HT4.out.cell 1).trans W1.out;rw [E4.out];clear hB4 hO4)
          | (refine wpl_look0 rfl _ _ rfl HS4.out vv HNV.out rfl rfl HVB.out ?_)
          | (refine wpl_upd1 rfl _ _ _ rfl HS4.out vv HNV.out HTL.out rfl rfl rfl HVB.out ?_;intro w5 hS5 hG5;have HS5:=Lh (show SeenS w1 bm (V.take ((no+k)+1)) w5 from by rw [HTK.out];exact hS5.out);have HT5:=Lh (HT4.out.grown hG5.out (fun e=>by have h9:=Option.some.inj e;have:=HBM.out;omega));have HB5:=Lh (HB.out.below HS5.out.bel HB.out.lt);clear hS5 hG5 y1)
          | (refine wpl_load_blk rfl 34 (.tmp 1) rfl b0 34 cs _ rfl HB5.out Tryz.underlying34 rfl (by rw [HCS.out];exact Tryz.szSt) ?_)
          | (refine wpl_load_at rfl 58 (.tmp 93) rfl ⟨b4,0,none⟩ (omCs (toO o)) _ rfl (iA_obj HT5.out) Tryz.underlying58 rfl rfl ?_)
          | (go_at_call 47;refine (HTI.out o HME.out w5 (HB0.out.trans (HS5.out.bel.mono HB0.out.size))).mono ?_;rintro e w6 ⟨rfl,hb6⟩;have HS6:=Lh (HS5.out.later hb6);clear hb6))
         exact⟨⟨k+1,by omega,by go_num,HS6⟩,by simp [intOf];omega⟩
       · obtain rfl:ni=k:=by omega
         obtain⟨D,hD1,hD2,hD3,hD4⟩:=HS.out.mp
         obtain⟨nt,ent⟩:∃nt,(V.take (no+ni)).length=nt:=⟨_,rfl⟩
         have hnt:nt=no+ni:=by rw [← ent,List.length_take,HVL.out];exact Nat.min_self _
         have hlen:∀ty,(Builtin.len_ #[98] ty #[.map (some bm)]).run Tryz.prog wr = .ok (.int .i64 (nt:Int)) wr:=fun ty=>by rw [hD1.len Tryz.underlying98 ty,hD3,ent]
         have z1:((nt:Int) == (no:Int)+(ni:Int))=true:=by rw [hnt];simp
         clear hD1 hD2 hD3 hD4 ent hnt
         have HBr:=Lh (HB.out.below HS.out.bel HB.out.lt)
         have k8:=(HBr.out.cell 8).trans V8.out
         have k9:=(HBr.out.cell 9).trans V9.out
         go_wp2_with (first
          | (refine wplW (by rfl) (wp_load_blkW 34 (.tmp 1) rfl b0 34 cs _ rfl HBr.out Tryz.underlying34 rfl (by rw [HCS.out];exact Tryz.szSt) ?_))
          | (go_at_call 48;refine (HSS.out wr (HB0.out.trans (HS.out.bel.mono HB0.out.size))).mono ?_;rintro e wf ⟨rfl,hbf⟩;have HBf:=Lh (HS.out.bel.trans (hbf.mono HS.out.bel.size));clear hbf))
         go_ret
         exact⟨rfl,HB0.out.trans (HBf.out.mono HB0.out.size)⟩
 · have f1:decide ((nd:Int)>0)=true:=decide_eq_true (by omega)
   have f2:decide (0<(nd:Int))=true:=decide_eq_true (by omega)
   have f3:decide (0<nd)=true:=decide_eq_true (by omega)
   have hnp:0<nd:=by omega
   clear hd0
   obtain⟨p,hp⟩:∃p,p+1=nd:=⟨nd - 1,by omega⟩
   have hpn:p<nd:=by omega
   have hw:IntKind.i64.wrap ((nd:Int) - 1)=(p:Int):=by rw [IntKind.wrap_i64];omega
   have hw2:(nd:Int) - 1=(p:Int):=by omega
   have B07:=Lh (HB0.out.trans (B7.out.mono HB0.out.size))
   obtain⟨ad,ead,hadb,q0⟩:=reads_int (HRD.out.later B07.out) hnp
   obtain⟨ad',ead',_,ql⟩:=reads_int (HRD.out.later B07.out) hpn
   rw [ead] at ead'
   injection ead' with ead'
   subst ead'
   obtain⟨x0,e0x⟩:∃x,m.x.down.getD 0 0=x:=⟨_,rfl⟩
   obtain⟨xl,elx⟩:∃x,m.x.down.getD p 0=x:=⟨_,rfl⟩
   rw [e0x] at q0
   rw [elx] at ql
   have q0:w7.cell? ad=some (.int .i64 x0):=by simpa [Addr.add] using q0
   have hmem:∀i,i<nd→m.x.down.getD i 0 ∈ m.x.down:=fun i hi=>by
    have:=HLND.out
    rw [List.getD_eq_getElem?_getD,List.getElem?_eq_getElem (by omega)]
    exact List.getElem_mem _
   have r0:=hS.out.may.downR _ (hmem 0 hnp)
   have rl:=hS.out.may.downR _ (hmem p hpn)
   rw [e0x] at r0
   rw [elx] at rl
   have x1:decide (x0<1)=false:=decide_eq_false (by omega)
   have x2:decide (xl>32)=false:=decide_eq_false (by omega)
   have x2':decide (32<xl)=false:=decide_eq_false (by omega)
   rw [ead] at k12
   clear hmem r0 rl e0x elx hp hadb ead
   go_upto_region 8 with (fail)
   clear f1 f2 f3 hw hw2 x1 x2 x2' q0 ql hpn hnp k12
   go_upto_region 9 with (fail)
   have hown:=World.ownsMap_made (H:=Unit) w7 Tryz.prog 24 (plainElem Tryz.prog 3)
   have HS0:=Lh (show SeenS w1 w7.heap.size [] (w7.alloc (.map #[] 0)) from ⟨B7.out.alloc B7.out.size _,B7.out.size,_,hown,Go.Maps.tidy_empty,rfl,fun v=>by simp [Go.Maps.has_eq]⟩)
   clear hown
   obtain⟨w8,ew8⟩:∃w8,w7.alloc (.map #[] 0)=w8:=⟨_,rfl⟩
   rw [ew8] at HS0 ⊢
   clear ew8
   obtain⟨bm,ebm⟩:∃bm,w7.heap.size=bm:=⟨_,rfl⟩
   rw [ebm] at HS0 ⊢
   clear ebm
   have k8:=((HC.out w8 HS0.out.bel).cell 8).trans V8.out
   go_wp2_with fail
   clear k8
   go_loopw [65] (fun vi wr=>∃k:Nat,k≤no∧vi = .int .i64 k∧Hid (SeenS w1 bm (V.take k) wr)) (fun vi _=>no - (intOf vi).toNat)
   case atStart=>exact⟨0,by omega,rfl,Lh (by rw [List.take_zero];exact HS0.out)⟩
   case round =>
    obtain⟨k,hk,rfl,HS⟩:=hrel
    by_cases hlt:k<no
    · have hmsl:k<m.os.length:=by have:=HLno.out;omega
      have HB0k:=Lh (HB0.out.trans (HS.out.bel.mono HB0.out.size))
      obtain⟨ad,rfl,hadb,hcell⟩:=elem_cells (cells:=omCs) (K:=7) (fun _=>rfl) (HRno.out.later HB0k.out) hmsl (by omega)
      have hmem:m.os[k] ∈ m.os:=List.getElem_mem hmsl
      have hvk:=HV1.out k hmsl
      obtain⟨o,eo⟩:∃o,m.os[k]=o:=⟨_,rfl⟩
      rw [eo] at hcell hmem hvk
      have HC1:=Lh hcell
      have HME:=Lh hmem
      obtain⟨hnv,htk⟩:=nodup_take HVN.out hvk
      have HNV:=Lh hnv
      have HTK:=Lh htk
      have HVB:=Lh (HFO.out o hmem).2
      have HTL:=Lh (show (V.take k).length≤67108864 from by rw [List.length_take];have:=HVL.out;omega)
      clear hmsl hadb eo hcell hmem hvk hnv htk
      obtain⟨b4,e4⟩:∃b4,wr.heap.size=b4:=⟨_,rfl⟩
      have E4:=Lh e4
      clear e4
      have HBM:=Lh (show bm<b4 from by obtain⟨D,h1,_⟩:=HS.out.mp;rw [← E4.out];exact h1.lt)
      obtain⟨vv,evv⟩:∃vv,o.x.version=vv:=⟨_,rfl⟩
      rw [evv] at HNV HTK HVB
      have W1:=Lh (show (oA o)[1]?=some (.int .u64 (vv:Int)) from by rw [← evv];rfl)
      clear evv
      go_wp2_with (first
       | (refine wpl_load_at rfl 58 (.tmp 67) rfl (ad.add (k*7)) (omCs o) _ rfl HC1.out Tryz.underlying58 rfl rfl ?_)
       | (refine wpl_store_blk rfl 58 (.tmp 6) (.tmp 68) rfl wr.heap.size 58 oZ (oA o) rfl rfl (Blk.new wr _ _) rfl Tryz.szObj rfl ?_;intro w4 hB4 hO4;have HT4:=Lh (show Blk w4 b4 58 (oA o) from by rw [← E4.out];exact hB4.out);have HB4:=Lh (show Below wr.heap.size wr w4 from ((Below.refl _ _).alloc (Nat.le_refl _) _).trans (hO4.out.below (Nat.le_refl _)));have HS4:=Lh (HS.out.later HB4.out);have y1:=(HT4.out.cell 1).trans W1.out;rw [E4.out];clear hB4 hO4)
       | (refine wpl_look0 rfl _ _ rfl HS4.out vv HNV.out rfl rfl HVB.out ?_)
       | (refine wpl_upd1 rfl _ _ _ rfl HS4.out vv HNV.out HTL.out rfl rfl rfl HVB.out ?_;intro w5 hS5 hG5;have HS5:=Lh (show SeenS w1 bm (V.take (k+1)) w5 from by rw [HTK.out];exact hS5.out);have HT5:=Lh (HT4.out.grown hG5.out (fun e=>by have h9:=Option.some.inj e;have:=HBM.out;omega));have HB5:=Lh (HB.out.below HS5.out.bel HB.out.lt);clear hS5 hG5 y1)
       | (refine wpl_load_blk rfl 34 (.tmp 1) rfl b0 34 cs _ rfl HB5.out Tryz.underlying34 rfl (by rw [HCS.out];exact Tryz.szSt) ?_)
       | (refine wpl_load_blk rfl 58 (.tmp 6) rfl b4 58 (oA o) _ rfl HT5.out Tryz.underlying58 rfl Tryz.szObj ?_)
       | (go_at_call 47;refine (HTO.out o HME.out w5 (HB0.out.trans (HS5.out.bel.mono HB0.out.size))).mono ?_;rintro e w6 ⟨rfl,hb6⟩;have HS6:=Lh (HS5.out.later hb6);clear hb6))
      exact⟨⟨k+1,by omega,by go_num,HS6⟩,by simp [intOf];omega⟩
    · obtain rfl:no=k:=by omega
      have k9:=((HC.out wr HS.out.bel).cell 9).trans V9.out
      go_wp2_with fail
      obtain⟨we,hwe⟩:∃we,we=wr:=⟨_,rfl⟩
      subst hwe
      clear k9
      go_loopw [82] (fun vi wr=>∃k:Nat,k≤ni∧vi = .int .i64 k∧Hid (SeenS w1 bm (V.take (no+k)) wr)) (fun vi _=>ni - (intOf vi).toNat)
      case atStart=>exact⟨0,by omega,rfl,Lh HS.out⟩
      case round =>
       obtain⟨k,hk,rfl,HS⟩:=hrel
       by_cases hlt:k<ni
       · have hmsl:k<m.is.length:=by have:=HLni.out;omega
         have HB0k:=Lh (HB0.out.trans (HS.out.bel.mono HB0.out.size))
         obtain⟨ad,rfl,hadb,hcell⟩:=elem_cells (cells:=imCs) (K:=9) (fun _=>rfl) (HRni.out.later HB0k.out) hmsl (by omega)
         have hmem:m.is[k] ∈ m.is:=List.getElem_mem hmsl
         have hvk:=HV2.out k hmsl
         obtain⟨o,eo⟩:∃o,m.is[k]=o:=⟨_,rfl⟩
         rw [eo] at hcell hmem hvk
         have HC1:=Lh hcell
         have HME:=Lh hmem
         obtain⟨hnv,htk⟩:=nodup_take HVN.out hvk
         have HNV:=Lh hnv
         have HTK:=Lh htk
         have HVB:=Lh (HFI.out o hmem).2
         have HTL:=Lh (show (V.take (no+k)).length≤67108864 from by rw [List.length_take];have:=HVL.out;omega)
         clear hmsl hadb eo hcell hmem hvk hnv htk
         obtain⟨b4,e4⟩:∃b4,wr.heap.size=b4:=⟨_,rfl⟩
         have E4:=Lh e4
         clear e4
         have HBM:=Lh (show bm<b4 from by obtain⟨D,h1,_⟩:=HS.out.mp;rw [← E4.out];exact h1.lt)
         obtain⟨vv,evv⟩:∃vv,o.x.obj.version=vv:=⟨_,rfl⟩
         rw [evv] at HNV HTK HVB
         have W1:=Lh (show (iA o)[1]?=some (.int .u64 (vv:Int)) from by rw [← evv];rfl)
         clear evv
         go_wp2_with (first
          | (refine wpl_load_at rfl 60 (.tmp 84) rfl (ad.add (k*9)) (imCs o) _ rfl HC1.out Tryz.underlying60 rfl rfl ?_)
          | (refine wpl_store_blk rfl 60 (.tmp 8) (.tmp 85) rfl wr.heap.size 60 iZ (iA o) rfl rfl (Blk.new wr _ _) rfl Tryz.szIt rfl ?_;intro w4 hB4 hO4;have HT4:=Lh (show Blk w4 b4 60 (iA o) from by rw [← E4.out];exact hB4.out);have HB4:=Lh (show Below wr.heap.size wr w4 from ((Below.refl _ _).alloc (Nat.le_refl _) _).trans (hO4.out.below (Nat.le_refl _)));have HS4:=Lh (HS.out.later HB4.out);have y1:=(HT4.out.cell 1).trans W1.out;rw [E4.out];clear hB4 hO4)
          | (refine wpl_look0 rfl _ _ rfl HS4.out vv HNV.out rfl rfl HVB.out ?_)
          | (refine wpl_upd1 rfl _ _ _ rfl HS4.out vv HNV.out HTL.out rfl rfl rfl HVB.out ?_;intro w5 hS5 hG5;have HS5:=Lh (show SeenS w1 bm (V.take ((no+k)+1)) w5 from by rw [HTK.out];exact hS5.out);have HT5:=Lh (HT4.out.grown hG5.out (fun e=>by have h9:=Option.some.inj e;have:=HBM.out;omega));have HB5:=Lh (HB.out.below HS5.out.bel HB.out.lt);clear hS5 hG5 y1)
          | (refine wpl_load_blk rfl 34 (.tmp 1) rfl b0 34 cs _ rfl HB5.out Tryz.underlying34 rfl (by rw [HCS.out];exact Tryz.szSt) ?_)
          | (refine wpl_load_at rfl 58 (.tmp 93) rfl ⟨b4,0,none⟩ (omCs (toO o)) _ rfl (iA_obj HT5.out) Tryz.underlying58 rfl rfl ?_)
          | (go_at_call 47;refine (HTI.out o HME.out w5 (HB0.out.trans (HS5.out.bel.mono HB0.out.size))).mono ?_;rintro e w6 ⟨rfl,hb6⟩;have HS6:=Lh (HS5.out.later hb6);clear hb6))
         exact⟨⟨k+1,by omega,by go_num,HS6⟩,by simp [intOf];omega⟩
       · obtain rfl:ni=k:=by omega
         obtain⟨D,hD1,hD2,hD3,hD4⟩:=HS.out.mp
         obtain⟨nt,ent⟩:∃nt,(V.take (no+ni)).length=nt:=⟨_,rfl⟩
         have hnt:nt=no+ni:=by rw [← ent,List.length_take,HVL.out];exact Nat.min_self _
         have hlen:∀ty,(Builtin.len_ #[98] ty #[.map (some bm)]).run Tryz.prog wr = .ok (.int .i64 (nt:Int)) wr:=fun ty=>by rw [hD1.len Tryz.underlying98 ty,hD3,ent]
         have z1:((nt:Int) == (no:Int)+(ni:Int))=true:=by rw [hnt];simp
         clear hD1 hD2 hD3 hD4 ent hnt
         have HBr:=Lh (HB.out.below HS.out.bel HB.out.lt)
         have k8:=(HBr.out.cell 8).trans V8.out
         have k9:=(HBr.out.cell 9).trans V9.out
         go_wp2_with (first
          | (refine wplW (by rfl) (wp_load_blkW 34 (.tmp 1) rfl b0 34 cs _ rfl HBr.out Tryz.underlying34 rfl (by rw [HCS.out];exact Tryz.szSt) ?_))
          | (go_at_call 48;refine (HSS.out wr (HB0.out.trans (HS.out.bel.mono HB0.out.size))).mono ?_;rintro e wf ⟨rfl,hbf⟩;have HBf:=Lh (HS.out.bel.trans (hbf.mono HS.out.bel.size));clear hbf))
         go_ret
         exact⟨rfl,HB0.out.trans (HBf.out.mono HB0.out.size)⟩
end
end Go.Proofs.YtdoneomahlfkbaaGreat
