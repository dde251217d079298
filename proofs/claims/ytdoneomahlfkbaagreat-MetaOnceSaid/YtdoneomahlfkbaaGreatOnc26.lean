/- AN OBJECT THAT IS FOUND. (printed by gen_mel5.py); WHAT MUST COME AT ANY RATE: four commands on a fresh state. Plain. (printed by gen_men2.py); WHAT M -/
import Derived.Test.YtdoneomahlfkbaaGreatOnc24
import Derived.Test.YtdoneomahlfkbaaGreatOnc23
import Derived.Test.YtdoneomahlfkbaaGreatOnc01
set_option linter.unusedVariables false
set_option linter.unusedSimpArgs false
set_option maxRecDepth 100000
set_option maxHeartbeats 8000000
namespace Go.Proofs.YtdoneomahlfkbaaGreat
section
open Go.RowKit OctMath StrMath PlMath
theorem oneIv (xs:List Int):OneC (xs.map iv):=fun u hu=>by
 obtain⟨x,_,rfl⟩:=List.mem_map.1 hu
 rfl
theorem find_any (m:MM) (key:List Nat) (x:ObjT) (w:World) (hI:Hid (MIn m w)) (hS:Hid (MSt m)) (hla:m.x.last<18446744073709551616) (hkb:Byt key) (hf:findR bytO ObjT.key key m.x.objs=some x) :
 Calls Tryz.prog 15 #[.agg m.cs,.string (strOf key)] w fun e w'=>∃A c,e = .returned (.tuple #[.agg (oA ⟨x,A,c⟩),.bool true])∧Below w.heap.size w w':=by
 have HMY:=Lh (fun W (h:Below w.heap.size w W)=>may_true m W (Lh (hI.out.later h)) hS hla)
 have HLO:=Lh hI.out.olen
 obtain⟨no,eno⟩:∃x,m.x.objs.length=x:=⟨_,rfl⟩
 obtain⟨OA,eOA⟩:∃x,m.OA=x:=⟨_,rfl⟩
 have hno:no≤16777216:=by rw [← eno];exact hI.out.wf.ol
 rw [eno] at HLO
 have HRO:=Lh (show Reads w w.heap.size 7 OA no (m.os.flatMap omCs) from by have:=hI.out.rows.objs.rd;unfold MM.objs at this;rw [eno,eOA] at this;exact this)
 obtain⟨y,hb,hp,hy⟩:∃y,bsB (fL (cmpObj key) m.os) m.os.length=true∧m.os[bsP (fL (cmpObj key) m.os) m.os.length]?=some y∧y.x=x:=by
  rcases find_mm (o:=bytO) (key:=ObjT.key) hI.out.os hS.out.may.objs key with ⟨h1,y,h2,h3⟩ | ⟨_,h3⟩
  · rw [hf] at h3
    injection h3 with h3
    exact⟨y,h1,h2,h3.symm⟩
  · rw [hf] at h3
    cases h3
 have HFW:=Lh (fun W kb h1 h2=>findObj OA no m.oc m.os kb key W h1 HLO (by omega) h2 (Lh hI.out.okeys) hkb)
 rw [← HLO.out] at HFW
 obtain⟨p,ep⟩:∃p,bsP (fL (cmpObj key) m.os) m.os.length=p:=⟨_,rfl⟩
 rw [hb,ep] at HFW
 rw [ep] at hp
 rw [HLO.out] at HFW
 have HP:=Lh hp
 have HY:=Lh hy
 have hpl:p<m.os.length:=(List.getElem?_eq_some_iff.1 hp).1
 have hpn:p<no:=by rw [← HLO.out];exact hpl
 have hym:y ∈ m.os:=List.mem_of_getElem? hp
 have HYI:=Lh (hI.out.rows.os y hym)
 have HYN:=Lh (show y.x.nodes.length≤255 from by rw [(hS.out.may.fitO y.x (obj_mem hI.out hym)).nodes];exact nodesR_lenP _ _ _)
 obtain⟨sk,esk⟩:∃sk,strOf key=sk:=⟨_,rfl⟩
 have HMK:=Lh (fun W=>mkObj key W)
 rw [esk] at HMK
 rw [esk]
 obtain⟨cs,ecs⟩:∃cs,m.cs=cs:=⟨_,rfl⟩
 have V8:=Lh (show cs[8]?=some (.slice OA no m.oc) from by rw [← ecs,← eOA,← eno];rfl)
 have HCS:=Lh (show cs.size=14 from by rw [← ecs];rfl)
 have HCO:=Lh (show cs.toList.all (·.oneCell')=true from by rw [← ecs];rfl)
 rw [ecs] at HMY
 rw [ecs]
 clear ecs eno eOA hb ep hp hy esk hym hf
 go_enter Tryz.func15,Tryz.ntmps15
 go_upto_region 1 with (fail)
 have h1:=(Blk.new w 34 cs).alloc (.cells oZ 58)
 have h2:=Blk.new (w.alloc (.cells cs 34)) 58 oZ
 rw [show (w.alloc (.cells cs 34)).heap.size=w.heap.size+1 from by simp] at h2
 have hb0:Below w.heap.size w ((w.alloc (.cells cs 34)).alloc (.cells oZ 58)):=((Below.refl _ _).alloc (Nat.le_refl _) _).alloc (by simp) _
 have eO:(.cells #[.string ⟨#[]⟩,.int .u64 0,.int .i64 0,.int .u32 0,.int .i64 0,.int .u64 0,.slice none 0 0] 58:Obj) = .cells oZ 58:=rfl
 rw [eO]
 obtain⟨w1,ew1⟩:∃w1,(w.alloc (.cells cs 34)).alloc (.cells oZ 58)=w1:=⟨_,rfl⟩
 rw [ew1] at h1 h2 hb0 ⊢
 have HB:=Lh h1
 have HZ:=Lh h2
 have HB0:=Lh hb0
 clear ew1 h1 h2 hb0 eO
 obtain⟨b0,e0⟩:∃b0,w.heap.size=b0:=⟨_,rfl⟩
 have E0:=Lh e0
 rw [e0] at HB HZ ⊢
 clear e0
 go_upto_region 2 with (first
  | (refine wpl_load_blk rfl 34 (.tmp 2) rfl b0 34 cs _ rfl HB.out Tryz.underlying34 rfl (by rw [HCS.out];exact Tryz.szSt) ?_)
  | (go_at_call 17;refine (HMY.out w1 HB0.out).mono ?_;rintro e w2 ⟨rfl,hb2⟩;have B2:=Lh hb2;clear hb2))
 refine wp_region_late (S0:=fun w'=>w'.cell? ⟨b0,8,none⟩=some (.slice OA no m.oc)) (S:=fun _=>True) 9 10 (by kernel_rfl) rfl ⟨((HB.out.below B2.out HB.out.lt).cell 8).trans V8.out,trivial⟩ (fun wd hwd hH=>?_)
 have DW:=Lh (show Below w1.heap.size w1 wd from by rw [hwd];exact B2.out.drew)
 clear hwd
 refine tS 0 rfl ?_ hH ?_ ?_
 rotate_left
 · (intro wx hx;go_simp <;> with_reducible rfl)
 try simp only [Act.put,pA9,pZ9,pS9]
 refine tS 1 rfl ?_ hH ?_ ?_
 rotate_left
 · (intro wx hx;go_simp <;> with_reducible rfl)
 try simp only [Act.put,pA9,pZ9,pS9]
 refine tS 2 rfl ?_ hH ?_ ?_
 rotate_left
 · (intro wx hx;go_simp <;> with_reducible rfl)
 try simp only [Act.put,pA9,pZ9,pS9]
 refine wpAnyT_one 3 rfl (by kernel_rfl) (fun K hQ=>?_)
 go_simp
 (go_at_call 33;refine (HMK.out _).mono ?_;rintro e w8 ⟨rfl,hc8,hb8⟩)
 have HC8:=Lh hc8
 have HB8:=Lh (DW.out.trans (hb8.mono DW.out.size))
 clear hc8 hb8
 refine hQ.out _ _ ?_ (fun hH3=>?_)
 · exact⟨((HB.out.below HB8.out HB.out.lt).cell 8).trans V8.out,trivial⟩
 clear hQ K
 try simp only [Act.put,pA9,pZ9,pS9]
 refine wpAnyT_one 4 rfl (by kernel_rfl) (fun K hQ=>?_)
 go_simp
 (go_at_call 32;refine (HFW.out _ wd.heap.size (Lh (HRO.out.later (HB0.out.trans (HB8.out.mono HB0.out.size)))) HC8).mono ?_;rintro e w9 ⟨rfl,hb9⟩)
 have HB9:=Lh (HB8.out.trans (hb9.mono HB8.out.size))
 clear hb9
 refine hQ.out _ _ ?_ (fun hH4=>?_)
 · exact⟨((HB.out.below HB9.out HB.out.lt).cell 8).trans V8.out,trivial⟩
 clear hQ K
 try simp only [Act.put,pA9,pZ9,pS9]
 refine tS 5 rfl ?_ hH4 ?_ ?_
 rotate_left
 · (intro wx hx;go_simp <;> with_reducible rfl)
 try simp only [Act.put,pA9,pZ9,pS9]
 refine tS 6 rfl ?_ hH4 ?_ ?_
 rotate_left
 · (intro wx hx;go_simp <;> with_reducible rfl)
 try simp only [Act.put,pA9,pZ9,pS9]
 refine tS 7 rfl ?_ hH4 ?_ ?_
 rotate_left
 · (intro wx hx;go_simp <;> with_reducible rfl)
 try simp only [Act.put,pA9,pZ9,pS9]
 refine tS 8 rfl ?_ hH4 ?_ ?_
 rotate_left
 · (intro wx hx;go_simp <;> with_reducible rfl)
 try simp only [Act.put,pA9,pZ9,pS9]
 refine wpAnyT_last 9 rfl (by kernel_rfl) (by decide) (fun K hQ=>?_)
 go_simp
 refine hQ.out _ _ ?_ (fun hH9=>?_)
 · exact hH4.1
 clear hQ K
 try simp only [Act.put,pA9,pZ9,pS9]
 refine wpAnyT_done (by kernel_rfl) ?_ _
 clear hH hH3 hH4 hH9
 have HB9':=Lh (HB0.out.trans (HB9.out.mono HB0.out.size))
 obtain⟨ad,rfl,hadb,hcell⟩:=elem_cells (cells:=omCs) (K:=7) (fun _=>rfl) (HRO.out.later HB9'.out) hpl (by omega)
 rw [(List.getElem?_eq_some_iff.1 HP.out).2] at hcell
 have HC1:=Lh hcell
 have k8:=((HB.out.below HB9.out HB.out.lt).cell 8).trans V8.out
 have d0:decide ((p:Int)<0)=false:=decide_eq_false (by omega)
 obtain⟨os,eos⟩:∃os,oA y=os:=⟨_,rfl⟩
 have EOS:=Lh eos
 have HOZ:=Lh (show os.size=7 from by rw [← eos];rfl)
 have HOO:=Lh (show os.toList.all (·.oneCell')=true from by rw [← eos];rfl)
 obtain⟨nl,enl⟩:∃nl,y.x.nodes.length=nl:=⟨_,rfl⟩
 have ENL:=Lh enl
 have U6:=Lh (show os[6]?=some (.slice y.A nl y.c) from by rw [← eos,← enl];rfl)
 have HC1:Hid (∀j v,os.toList[j]?=some v→w9.cell? ((ad.add (p*7)).add j)=some v):=by rw [← eos];exact HC1
 clear hpl hcell hadb eos enl
 go_upto_region 5 with (first
  | (refine wpl_load_at rfl 58 (.tmp 23) rfl (ad.add (p*7)) os.toList _ rfl HC1.out Tryz.underlying58 rfl (by rw [Array.length_toList,HOZ.out];exact Tryz.szObj) ?_)
  | (refine wpl_store_blk rfl 58 (.tmp 8) (.tmp 24) rfl w9.heap.size 58 oZ os rfl rfl (Blk.new w9 _ _) (by rw [HOZ.out];rfl) (by rw [HOZ.out];exact Tryz.szObj) HOO.out ?_;intro wa hBa hOa))
 have HTa:=hBa
 have Ba:=Lh (HB9.out.trans ((((Below.refl _ _).alloc (Nat.le_refl _) _).trans (hOa.out.below (Nat.le_refl _)):Below w9.heap.size w9 wa).mono HB9.out.size))
 obtain⟨b8,e8⟩:∃b8,w9.heap.size=b8:=⟨_,rfl⟩
 have H8:=Lh (show b0+1<b8∧w1.heap.size≤b8 from by rw [← e8];exact⟨(HZ.out.below HB9.out HZ.out.lt).lt,HB9.out.size⟩)
 rw [e8] at HTa ⊢
 clear e8 hBa hOa k8 d0
 have y6:=(HTa.out.cell 6).trans U6.out
 have HCL:=Lh (cloneI64 y.A nl y.c (y.x.nodes.map iv) wa (Lh (by have h:=HYI.out.rd;unfold oRow at h;rw [← ENL.out];exact h.later (HB0.out.trans (Ba.out.mono HB0.out.size)))) (Lh (oneIv _)) (by have:=HYN.out;have:=ENL.out;omega))
 go_upto_region 6 with (first
  | (go_at_call 31;refine HCL.out.mono ?_;rintro e wb ⟨v,rfl,ho,hbb⟩;obtain⟨A9,c9,rfl,_,_⟩:=own_slice ho;have HTb:=Lh (HTa.out.below hbb HTa.out.lt);have Bb:=Lh (Ba.out.trans (hbb.mono Ba.out.size));have z6:=HTb.out.frozen 6;have y6:=(HTb.out.cell 6).trans U6.out;clear hbb ho))
 have hTc:=HTb.out.set_ 6 (.slice A9 nl c9)
 have hOc:=Only.set_ wb b8 6 (.slice A9 nl c9)
 obtain⟨wc,ewc⟩:∃wc,wb.setCell ⟨b8,6,none⟩ (.slice A9 nl c9)=wc:=⟨_,rfl⟩
 rw [ewc] at hTc hOc ⊢
 have HTc:=Lh hTc
 have Bc:=Lh (Bb.out.trans (hOc.below H8.out.2))
 have HZc:=Lh (HZ.out.below Bc.out HZ.out.lt)
 clear ewc hTc hOc z6 y6
 obtain⟨os',eos'⟩:∃os',os.setIfInBounds 6 (.slice A9 nl c9)=os':=⟨_,rfl⟩
 have EO':=Lh eos'
 have HOZ':=Lh (show os'.size=7 from by rw [← eos',Array.size_setIfInBounds];exact HOZ.out)
 have hfin:os'=oA ⟨x,A9,c9⟩:=by rw [← eos',← EOS.out,← ENL.out,← HY.out];rfl
 have HFI:=Lh hfin
 have HOO':=Lh (show os'.toList.all (·.oneCell')=true from by rw [hfin];rfl)
 rw [eos'] at HTc
 clear eos' hfin
 go_wp2_with (first
  | (refine wpl_load_blk rfl 58 (.tmp 8) rfl b8 58 os' _ rfl HTc.out Tryz.underlying58 rfl (by rw [HOZ'.out];exact Tryz.szObj) ?_)
  | (refine wpl_store_blk rfl 58 (.tmp 4) (.tmp 29) rfl (b0+1) 58 oZ os' rfl rfl HZc.out (by rw [HOZ'.out];rfl) (by rw [HOZ'.out];exact Tryz.szObj) HOO'.out ?_;intro we hBe hOe))
 refine bodyPost_ret (res_ct Tryz.results15 rfl rfl (load_blk hBe.out Tryz.underlying58 rfl (by rw [HOZ'.out];exact Tryz.szObj))) rfl ⟨A9,c9,by rw [HFI.out];rfl,?_⟩
 exact (HB0.out.trans (Bc.out.mono HB0.out.size)).trans (hOe.out.below (by have:=E0.out;omega))
end
section
open Go.RowKit OctMath StrMath PlMath
def ms2:List (Int×Int):=[(1,1),(2,1)]
def hc1:CmdT:=⟨1,1,1,[97],0,0,0,0,0,0,false,⟨0,0,0⟩,0,[]⟩
def hc2:CmdT:=⟨2,0,0,[],0,0,1,0,0,0,false,⟨0,0,0⟩,0,[]⟩
def hc4:CmdT:=⟨3,0,0,[],0,0,1,0,0,0,false,⟨0,0,0⟩,0,[]⟩
def hm0:MetT:=newM 1 2 4 ms2
def hm1:MetT:=(applyM plF hm0 1 hc1).1
def hm2:MetT:=(applyM plF hm1 2 hc2).1
theorem h0_run:RunS hm0 0:=new_run (by decide) (by decide) (by decide) (by decide)
theorem h1_run:RunS hm1 1:=h0_run.apply (by decide) hc1
theorem h2_run:RunS hm2 2:=h1_run.apply (by decide) hc2
section
variable (P:PlF)
def hob:ObjT:=⟨[97],1,0,0,P.grp [97] 4,1,P.nds (1,ms2) (P.grp [97] 4) 2⟩
def hs1:MetT:={ hm0 with last:=1,ints:=[⟨hob P,1,1⟩],sess:=[⟨1,1,true,1,0⟩] }
def hs2:MetT:={ hm0 with last:=2,objs:=[hob P],sess:=[⟨1,1,false,1,1⟩] }
theorem h_1:applyM P hm0 1 hc1=(hs1 P,⟨0,1,P.nds (1,ms2) (P.grp [97] 4) 2,1⟩):=rfl
theorem h_2:applyM P (hs1 P) 2 hc2=(hs2 P,⟨1,1,[],0⟩):=rfl
theorem h_3:(applyM P (hs2 P) 3 hc1).2.code=1:=rfl
theorem h_4:(applyM P (hs2 P) 3 hc4).2.code=3:=rfl
theorem h_f:findR bytO ObjT.key [97] (hs2 P).objs=some (hob P):=rfl
end
theorem hm1_eq:hm1=hs1 plF:=congrArg Prod.fst (h_1 plF)
theorem hm2_eq:hm2=hs2 plF:=by
 unfold hm2
 rw [hm1_eq]
 exact congrArg Prod.fst (h_2 plF)
theorem h_len:(plF.nds (1,ms2) (plF.grp [97] 4) 2).length=2:=by
 have hg:=plF.grpR [97] 4 (by omega) (by omega)
 have h:=plF.len (n:=2) (m:=(1,ms2)) (g:=plF.grp [97] 4) (by decide) (by omega) (by omega) hg.1 (by omega)
 omega
end
section
open Go.RowKit OctMath StrMath PlMath
theorem eL1:cmdCs hc1 none 0=#[.int .i64 1,.int .u64 1,.int .u64 1,.string ⟨#[97]⟩,.int .i64 0,.int .u32 0,.int .u64 0,.int .u64 0,.int .i64 0,.int .i64 0,.bool false,.int .u64 0,.int .i64 0,.int .u64 0,.int .u64 0,.slice none 0 0]:=rfl
theorem eL2:cmdCs hc2 none 0=#[.int .i64 2,.int .u64 0,.int .u64 0,.string ⟨#[]⟩,.int .i64 0,.int .u32 0,.int .u64 1,.int .u64 0,.int .i64 0,.int .i64 0,.bool false,.int .u64 0,.int .i64 0,.int .u64 0,.int .u64 0,.slice none 0 0]:=rfl
theorem eL4:cmdCs hc4 none 0=#[.int .i64 3,.int .u64 0,.int .u64 0,.string ⟨#[]⟩,.int .i64 0,.int .u32 0,.int .u64 1,.int .u64 0,.int .i64 0,.int .i64 0,.bool false,.int .u64 0,.int .i64 0,.int .u64 0,.int .u64 0,.slice none 0 0]:=rfl
theorem ap_bare {w:World} {m:MM} {i:Nat} {G:List Nat} (hI:MIn m w) (hR:RunS m.x i) (hi:i≤1000) (hG:∀q ∈ G,q<w.heap.size∧m.All (·.Off q)) (c:CmdT) (hm:c.mem=[]) (hk:Byt c.key) (hl:c.key.length≤64) :
 Calls Tryz.prog 9 #[.agg m.cs,.int .u64 ((i+1:Nat):Int),.agg (cmdCs c none 0)] w (RetApp (applyM plF m.x (i+1) c) G w) :=
 apply_any m (i+1) c none 0 w (Lh hI) (Lh (mst_of hR.may)) (Lh (hR.siz (by omega))) (by have:=hR.last;omega) (by omega) (Lh (by rw [hm];exact⟨by refine⟨rfl,fun h=>absurd h (Nat.lt_irrefl 0)⟩,Nat.le_refl _,by show (0:Nat)≤maxLen;unfold maxLen;omega⟩)) (by rw [hm];intro x hx;cases hx) hk (by unfold maxLen;omega) G (Lh fun q hq=>⟨(hG q hq).1,(hG q hq).2,fun h=>absurd h (by rw [hm];exact Nat.lt_irrefl 0)⟩)
theorem byt_a:Byt [97]:=fun y hy=>by rw [List.mem_singleton.1 hy];omega
theorem byt_n:Byt []:=fun y hy=>by cases hy
theorem heads_any (w:World):Calls Tryz.prog 7 #[] w fun e w'=>e = .returned (.bool true)∧Below w.heap.size w w':=by
 go_enter Tryz.func7,Tryz.ntmps7
 go_wp2_with fail
 refine (two_any w).mono ?_
 rintro e v1 ⟨A0,c0,rfl,hrow,hb⟩
 have BV1:=Lh hb
 have HR0:=Lh hrow
 have hnew:=new_any 1 2 4 ms2 A0 c0 v1 (Lh hrow) (Lh h0_run.may)
 have hin:=newMM_in (k:=1) (n:=2) (gs:=4) (ms:=ms2) hrow
 obtain⟨m0,em0⟩:∃m0,newMM 1 2 4 ms2 A0 c0=m0:=⟨_,rfl⟩
 have EM0:=Lh (show m0.x=hm0 from by rw [← em0];rfl)
 rw [em0] at hnew hin
 have HI0:=Lh hin
 clear em0 hin hrow hb
 obtain⟨cs0,ec⟩:∃cs,m0.cs=cs:=⟨_,rfl⟩
 have EC0:=Lh ec
 have Z0:=Lh (show cs0.size=14 from by rw [← ec];rfl)
 have O0:=Lh (show cs0.toList.all (·.oneCell')=true from by rw [← ec];rfl)
 rw [ec] at hnew
 clear ec
 have HNEW:=Lh hnew
 clear hnew
 go_wp2_with fail
 refine HNEW.out.mono ?_
 rintro e v2 ⟨rfl,hb⟩
 have BV2:=Lh (BV1.out.trans (hb.mono BV1.out.size))
 have HI0:=Lh (HI0.out.later hb)
 clear hb HNEW
 go_upto_region 2 with (refine wpl_store_blk rfl 34 (.tmp 1) (.tmp 18) rfl v2.heap.size 34 mZ cs0 rfl rfl (Blk.new v2 _ _) (by rw [Z0.out];rfl) (by rw [Z0.out];exact Tryz.szSt) O0.out ?_;intro u0 hB hO)
 have hb2:Below v2.heap.size v2 u0:=((Below.refl _ _).alloc (Nat.le_refl _) _).trans (hO.out.below (Nat.le_refl _))
 have HF0:=Lh (show m0.All (·.Off v2.heap.size) from HI0.out.rows.imp fun r hr=>hr.off (Nat.le_refl _))
 have HI0:=Lh (HI0.out.later hb2)
 have BU0:=Lh (BV2.out.trans (hb2.mono BV2.out.size))
 have hge:=BV2.out.size
 obtain⟨b1,e1⟩:∃b1,v2.heap.size=b1:=⟨_,rfl⟩
 rw [e1] at hB HF0 hge ⊢
 have HM0:=hB
 have HGE:=Lh hge
 clear hB hO hb2 e1 hge
 have hap:=ap_bare HI0.out (by rw [EM0.out];exact h0_run) (by decide) (G:=[b1]) (fun q hq=>by rw [List.mem_singleton.1 hq];exact⟨HM0.out.lt,HF0.out⟩) hc1 rfl byt_a (by decide)
 rw [EM0.out,eL1,EC0.out,h_1] at hap
 have HAP:=Lh (show Calls Tryz.prog 9 #[.agg cs0,.int .u64 1,.agg _] u0 (RetApp _ [b1] u0) from hap)
 clear hap
 go_wp2_with (refine wpl_load_blk rfl 34 (.tmp 1) rfl b1 34 cs0 _ rfl HM0.out Tryz.underlying34 rfl (by rw [Z0.out];exact Tryz.szSt) ?_)
 refine HAP.out.mono ?_
 rintro e x1 ⟨m1,A1,c1,rfl,hin,hx,hb,hoff⟩
 have EM1:=Lh hx
 have HF1:=Lh (hoff b1 (by simp))
 have HIx:=Lh hin
 have HMx:=Lh (HM0.out.below hb HM0.out.lt)
 have BUx:=Lh (BU0.out.trans (hb.mono BU0.out.size))
 have hbx:=Lh hb
 clear hin hoff hb hx HAP
 obtain⟨cs1,ec⟩:∃cs,m1.cs=cs:=⟨_,rfl⟩
 have EC1:=Lh ec
 have Z1:=Lh (show cs1.size=14 from by rw [← ec];rfl)
 have O1:=Lh (show cs1.toList.all (·.oneCell')=true from by rw [← ec];rfl)
 rw [ec]
 clear ec
 obtain⟨rr1,er⟩:∃rr,rcs (⟨0,1,plF.nds (1,ms2) (plF.grp [97] 4) 2,1⟩:ResT) A1 c1=rr:=⟨_,rfl⟩
 have YR1:=Lh (show rr1.size=4 from by rw [← er];rfl)
 have OR1:=Lh (show rr1.toList.all (·.oneCell')=true from by rw [← er];rfl)
 have Q1:=Lh (show rr1[1]?=some (.int .u64 1) from by rw [← er];rfl)
 have Q2:=Lh (show rr1[2]?=some (.slice A1 2 c1) from by rw [← er];show some (Value.slice A1 (plF.nds (1,ms2) (plF.grp [97] 4) 2).length c1)=_;rw [h_len])
 rw [er]
 clear er
 have HLT:=Lh HMx.out.lt
 go_upto_region 3 with (first
  | (refine wpl_store_blk rfl 34 (.tmp 1) (.tmp 24) rfl b1 34 cs0 cs1 rfl rfl (HMx.out.alloc _) (by rw [Z0.out,Z1.out]) (by rw [Z1.out];exact Tryz.szSt) O1.out ?_;intro x2 hB2 hO2;have HT:=Lh (hO2.out.blk (Blk.new x1 39 rZ) (by have:=HLT.out;omega)))
  | (refine wpl_store_blk rfl 39 (.tmp 3) (.tmp 25) rfl x1.heap.size 39 rZ rr1 rfl rfl HT.out (by rw [YR1.out];rfl) (by rw [YR1.out];exact Tryz.szR) OR1.out ?_;intro u1 hB3 hO3))
 have hba:Below x1.heap.size x1 (x1.alloc (.cells rZ 39)):=(Below.refl _ _).alloc (Nat.le_refl _) _
 have HF9:m1.All (·.Off x1.heap.size):=HIx.out.rows.imp fun r hr=>hr.off (Nat.le_refl _)
 have HI1:=Lh (min_store (min_store (HIx.out.later hba) hO2.out HF1.out) hO3.out HF9)
 have HM1:=Lh (hO3.out.blk hB2.out (by have:=HLT.out;omega))
 have BU1:=Lh ((((BUx.out.trans (hba.mono BUx.out.size)).trans (hO2.out.below HGE.out))).trans (hO3.out.below BUx.out.size))
 have HT1:=hB3
 have HNE1:=Lh (show b1<x1.heap.size from HLT.out)
 obtain⟨r1,er⟩:∃r,x1.heap.size=r:=⟨_,rfl⟩
 rw [er] at HT1 HNE1 ⊢
 clear er hB2 hO2 hB3 hO3 hba HF9 HIx HMx BUx HT HLT hbx HM0 HI0 BU0
 have hap:=ap_bare HI1.out (by rw [EM1.out];exact (by rw [← hm1_eq];exact h1_run)) (by decide) (G:=[b1]) (fun q hq=>by rw [List.mem_singleton.1 hq];exact⟨HM1.out.lt,HF1.out⟩) hc2 rfl byt_n (by decide)
 rw [EM1.out,eL2,EC1.out,h_2] at hap
 have HAP:=Lh (show Calls Tryz.prog 9 #[.agg cs1,.int .u64 2,.agg _] u1 (RetApp _ [b1] u1) from hap)
 clear hap
 go_wp2_with (refine wpl_load_blk rfl 34 (.tmp 1) rfl b1 34 cs1 _ rfl HM1.out Tryz.underlying34 rfl (by rw [Z1.out];exact Tryz.szSt) ?_)
 refine HAP.out.mono ?_
 rintro e x1 ⟨m2,A2,c2,rfl,hin,hx,hb,hoff⟩
 have EM2:=Lh hx
 have HF2:=Lh (hoff b1 (by simp))
 have HIx:=Lh hin
 have HMx:=Lh (HM1.out.below hb HM1.out.lt)
 have BUx:=Lh (BU1.out.trans (hb.mono BU1.out.size))
 have hbx:=Lh hb
 clear hin hoff hb hx HAP
 have HT1:=Lh (HT1.out.below hbx.out HT1.out.lt)
 obtain⟨cs2,ec⟩:∃cs,m2.cs=cs:=⟨_,rfl⟩
 have EC2:=Lh ec
 have Z2:=Lh (show cs2.size=14 from by rw [← ec];rfl)
 have O2:=Lh (show cs2.toList.all (·.oneCell')=true from by rw [← ec];rfl)
 rw [ec]
 clear ec
 obtain⟨rr2,er⟩:∃rr,rcs (⟨1,1,[],0⟩:ResT) A2 c2=rr:=⟨_,rfl⟩
 have YR2:=Lh (show rr2.size=4 from by rw [← er];rfl)
 have OR2:=Lh (show rr2.toList.all (·.oneCell')=true from by rw [← er];rfl)
 have Q3:=Lh (show rr2[0]?=some (.int .i64 1) from by rw [← er];rfl)
 rw [er]
 clear er
 have HLT:=Lh HMx.out.lt
 go_upto_region 4 with (first
  | (refine wpl_store_blk rfl 34 (.tmp 1) (.tmp 31) rfl b1 34 cs1 cs2 rfl rfl (HMx.out.alloc _) (by rw [Z1.out,Z2.out]) (by rw [Z2.out];exact Tryz.szSt) O2.out ?_;intro x2 hB2 hO2;have HT:=Lh (hO2.out.blk (Blk.new x1 39 rZ) (by have:=HLT.out;omega)))
  | (refine wpl_store_blk rfl 39 (.tmp 5) (.tmp 32) rfl x1.heap.size 39 rZ rr2 rfl rfl HT.out (by rw [YR2.out];rfl) (by rw [YR2.out];exact Tryz.szR) OR2.out ?_;intro u2 hB3 hO3))
 have hba:Below x1.heap.size x1 (x1.alloc (.cells rZ 39)):=(Below.refl _ _).alloc (Nat.le_refl _) _
 have HF9:m2.All (·.Off x1.heap.size):=HIx.out.rows.imp fun r hr=>hr.off (Nat.le_refl _)
 have HI2:=Lh (min_store (min_store (HIx.out.later hba) hO2.out HF2.out) hO3.out HF9)
 have HM2:=Lh (hO3.out.blk hB2.out (by have:=HLT.out;omega))
 have BU2:=Lh ((((BUx.out.trans (hba.mono BUx.out.size)).trans (hO2.out.below HGE.out))).trans (hO3.out.below BUx.out.size))
 have HT1:=Lh (hO3.out.blk (hO2.out.blk (HT1.out.below hba HT1.out.lt) (by have:=HNE1.out;omega)) (by have:=HT1.out.lt;omega))
 have HT2:=hB3
 have HNE2:=Lh (show b1<x1.heap.size from HLT.out)
 obtain⟨r2,er⟩:∃r,x1.heap.size=r:=⟨_,rfl⟩
 rw [er] at HT2 HNE2 ⊢
 clear er hB2 hO2 hB3 hO3 hba HF9 HIx HMx BUx HT HLT hbx HM1 HI1 BU1
 have HFN:=Lh (find_any m2 [97] (hob plF) u2 HI2 (Lh (mst_of (by rw [EM2.out,← hm2_eq];exact h2_run.may))) (by rw [EM2.out];decide) byt_a (by rw [EM2.out];exact h_f plF))
 rw [EC2.out] at HFN
 go_wp2_with (refine wpl_load_blk rfl 34 (.tmp 1) rfl b1 34 cs2 _ rfl HM2.out Tryz.underlying34 rfl (by rw [Z2.out];exact Tryz.szSt) ?_)
 refine HFN.out.mono ?_
 rintro e x1 ⟨A9,c9,rfl,hb⟩
 obtain⟨os,eos⟩:∃os,oA ⟨hob plF,A9,c9⟩=os:=⟨_,rfl⟩
 have ZS:=Lh (show os.size=7 from by rw [← eos];rfl)
 have OS:=Lh (show os.toList.all (·.oneCell')=true from by rw [← eos];rfl)
 have Q4:=Lh (show os[1]?=some (.int .u64 1) from by rw [← eos];rfl)
 rw [eos]
 clear eos HFN
 have HB1:=Lh hb
 clear hb
 go_upto_region 5 with (refine wpl_store_blk rfl 58 (.tmp 7) (.tmp 37) rfl x1.heap.size 58 oZ os rfl rfl (Blk.new x1 _ _) (by rw [ZS.out];rfl) (by rw [ZS.out];exact Tryz.szObj) OS.out ?_;intro u3 hB3 hO3)
 have h3:Below u2.heap.size u2 u3:=HB1.out.trans ((((Below.refl _ _).alloc (Nat.le_refl _) _).trans (hO3.out.below (Nat.le_refl _)):Below x1.heap.size x1 u3).mono HB1.out.size)
 have HT3:=hB3
 have HT1:=Lh (HT1.out.below h3 HT1.out.lt)
 have HT2:=Lh (HT2.out.below h3 HT2.out.lt)
 have HM3:=Lh (HM2.out.below h3 HM2.out.lt)
 have HI3:=Lh (HI2.out.later h3)
 have BU3:=Lh (BU2.out.trans (h3.mono BU2.out.size))
 obtain⟨r3,er⟩:∃r,x1.heap.size=r:=⟨_,rfl⟩
 rw [er] at HT3 ⊢
 clear er hB3 hO3 h3 HB1 HM2 HI2 BU2
 have hap:=ap_bare HI3.out (by rw [EM2.out,← hm2_eq];exact h2_run) (by decide) (G:=[]) (fun q hq=>by cases hq) hc1 rfl byt_a (by decide)
 rw [EM2.out,eL1,EC2.out] at hap
 have HAP:=Lh (show Calls Tryz.prog 9 #[.agg cs2,.int .u64 3,.agg _] u3 (RetApp (applyM plF (hs2 plF) 3 hc1) [] u3) from hap)
 clear hap
 go_wp2_with (refine wpl_load_blk rfl 34 (.tmp 1) rfl b1 34 cs2 _ rfl HM3.out Tryz.underlying34 rfl (by rw [Z2.out];exact Tryz.szSt) ?_)
 refine HAP.out.mono ?_
 rintro e x1 ⟨mq,Aq,cq,rfl,hin,hx,hb,hoff⟩
 have HBx:=Lh hb
 clear hin hoff hb hx HAP
 obtain⟨cq3,ec⟩:∃cs,mq.cs=cs:=⟨_,rfl⟩
 have ECq3:=Lh ec
 have Zq3:=Lh (show cq3.size=14 from by rw [← ec];rfl)
 have Oq3:=Lh (show cq3.toList.all (·.oneCell')=true from by rw [← ec];rfl)
 rw [ec]
 clear ec
 obtain⟨rq3,er⟩:∃rr,rcs (applyM plF (hs2 plF) 3 hc1).2 Aq cq=rr:=⟨_,rfl⟩
 have YRq3:=Lh (show rq3.size=4 from by rw [← er];rfl)
 have ORq3:=Lh (show rq3.toList.all (·.oneCell')=true from by rw [← er];rfl)
 have Q5:=Lh (show rq3[0]?=some (.int .i64 1) from by rw [← er];show some (Value.int .i64 (applyM plF (hs2 plF) 3 hc1).2.code)=_;rw [h_3])
 rw [er]
 clear er
 go_upto_region 6 with (first
  | (refine wpl_store_blk rfl 34 (.tmp 9) (.tmp 43) rfl x1.heap.size 34 mZ cq3 rfl rfl ((Blk.new x1 34 mZ).alloc _) (by rw [Zq3.out];rfl) (by rw [Zq3.out];exact Tryz.szSt) Oq3.out ?_;intro x2 hB2 hO2;have HT:=Lh (hO2.out.blk (show Blk ((x1.alloc (.cells mZ 34)).alloc (.cells rZ 39)) (x1.heap.size+1) 39 rZ from by have h:=Blk.new (x1.alloc (.cells mZ 34)) 39 rZ;rw [show (x1.alloc (.cells mZ 34)).heap.size=x1.heap.size+1 from by simp] at h;exact h) (by omega)))
  | (refine wpl_store_blk rfl 39 (.tmp 10) (.tmp 44) rfl (x1.heap.size+1) 39 rZ rq3 rfl rfl HT.out (by rw [YRq3.out];rfl) (by rw [YRq3.out];exact Tryz.szR) ORq3.out ?_;intro u4 hB3 hO3))
 have h3:Below u3.heap.size u3 u4:=HBx.out.trans ((((((Below.refl _ _).alloc (Nat.le_refl _) _).alloc (by simp) _).trans (hO2.out.below (Nat.le_refl _))).trans (hO3.out.below (by omega)):Below x1.heap.size x1 u4).mono HBx.out.size)
 have HT4:=hB3
 have BU4:=Lh (BU3.out.trans (h3.mono BU3.out.size))
 have HT1:=Lh (HT1.out.below h3 HT1.out.lt)
 have HT2:=Lh (HT2.out.below h3 HT2.out.lt)
 have HT3:=Lh (HT3.out.below h3 HT3.out.lt)
 have HM4:=Lh (HM3.out.below h3 HM3.out.lt)
 have HI4:=Lh (HI3.out.later h3)
 obtain⟨r4,er⟩:∃r,x1.heap.size+1=r:=⟨_,rfl⟩
 rw [er] at HT4 ⊢
 clear er hB2 hO2 hB3 hO3 h3 HBx HT HM3 HI3 BU3
 have hap:=ap_bare HI4.out (by rw [EM2.out,← hm2_eq];exact h2_run) (by decide) (G:=[]) (fun q hq=>by cases hq) hc4 rfl byt_n (by decide)
 rw [EM2.out,eL4,EC2.out] at hap
 have HAP:=Lh (show Calls Tryz.prog 9 #[.agg cs2,.int .u64 3,.agg _] u4 (RetApp (applyM plF (hs2 plF) 3 hc4) [] u4) from hap)
 clear hap
 go_wp2_with (refine wpl_load_blk rfl 34 (.tmp 1) rfl b1 34 cs2 _ rfl HM4.out Tryz.underlying34 rfl (by rw [Z2.out];exact Tryz.szSt) ?_)
 refine HAP.out.mono ?_
 rintro e x1 ⟨mq,Aq,cq,rfl,hin,hx,hb,hoff⟩
 have HBx:=Lh hb
 clear hin hoff hb hx HAP
 obtain⟨cq4,ec⟩:∃cs,mq.cs=cs:=⟨_,rfl⟩
 have ECq4:=Lh ec
 have Zq4:=Lh (show cq4.size=14 from by rw [← ec];rfl)
 have Oq4:=Lh (show cq4.toList.all (·.oneCell')=true from by rw [← ec];rfl)
 rw [ec]
 clear ec
 obtain⟨rq4,er⟩:∃rr,rcs (applyM plF (hs2 plF) 3 hc4).2 Aq cq=rr:=⟨_,rfl⟩
 have YRq4:=Lh (show rq4.size=4 from by rw [← er];rfl)
 have ORq4:=Lh (show rq4.toList.all (·.oneCell')=true from by rw [← er];rfl)
 have Q6:=Lh (show rq4[0]?=some (.int .i64 3) from by rw [← er];show some (Value.int .i64 (applyM plF (hs2 plF) 3 hc4).2.code)=_;rw [h_4])
 rw [er]
 clear er
 go_upto_region 7 with (first
  | (refine wpl_store_blk rfl 34 (.tmp 12) (.tmp 50) rfl x1.heap.size 34 mZ cq4 rfl rfl ((Blk.new x1 34 mZ).alloc _) (by rw [Zq4.out];rfl) (by rw [Zq4.out];exact Tryz.szSt) Oq4.out ?_;intro x2 hB2 hO2;have HT:=Lh (hO2.out.blk (show Blk ((x1.alloc (.cells mZ 34)).alloc (.cells rZ 39)) (x1.heap.size+1) 39 rZ from by have h:=Blk.new (x1.alloc (.cells mZ 34)) 39 rZ;rw [show (x1.alloc (.cells mZ 34)).heap.size=x1.heap.size+1 from by simp] at h;exact h) (by omega)))
  | (refine wpl_store_blk rfl 39 (.tmp 13) (.tmp 51) rfl (x1.heap.size+1) 39 rZ rq4 rfl rfl HT.out (by rw [YRq4.out];rfl) (by rw [YRq4.out];exact Tryz.szR) ORq4.out ?_;intro u5 hB3 hO3))
 have h3:Below u4.heap.size u4 u5:=HBx.out.trans ((((((Below.refl _ _).alloc (Nat.le_refl _) _).alloc (by simp) _).trans (hO2.out.below (Nat.le_refl _))).trans (hO3.out.below (by omega)):Below x1.heap.size x1 u5).mono HBx.out.size)
 have HT5:=hB3
 have BU5:=Lh (BU4.out.trans (h3.mono BU4.out.size))
 have HT1:=Lh (HT1.out.below h3 HT1.out.lt)
 have HT2:=Lh (HT2.out.below h3 HT2.out.lt)
 have HT3:=Lh (HT3.out.below h3 HT3.out.lt)
 have HT4:=Lh (HT4.out.below h3 HT4.out.lt)
 have HM5:=Lh (HM4.out.below h3 HM4.out.lt)
 have HI5:=Lh (HI4.out.later h3)
 obtain⟨r5,er⟩:∃r,x1.heap.size+1=r:=⟨_,rfl⟩
 rw [er] at HT5 ⊢
 clear er hB2 hO2 hB3 hO3 h3 HBx HT HM4 HI4 BU4
 have z1:=(HT1.out.cell 1).trans Q1.out
 have z2:=(HT1.out.cell 2).trans Q2.out
 have z3:=(HT2.out.cell 0).trans Q3.out
 have z4:=(HT3.out.cell 1).trans Q4.out
 have z5:=(HT4.out.cell 0).trans Q5.out
 have z6:=(HT5.out.cell 0).trans Q6.out
 go_wp2
 go_ret
 exact⟨rfl,BU5.out⟩
end
section
open Go.RowKit OctMath StrMath PlMath
section
variable {P:PlF} {m:MetT}
def Held (c:CmdT) (rc:Int) (ss:List SesT):Prop :=
 (askBad c=true∧rc=3)∨(askBad c=false∧∃s ∈ ss,s.client=c.client∧((c.seq<s.seq∧rc=4)∨(s.seq=c.seq∧s.opn=false∧s.code=rc)))
theorem held_ask {c:CmdT} {rc:Int} (hs:Ris natO SesT.client m.sess) (h:Held c rc m.sess):∃r,askM m c = .inl r∧r.code=rc:=by
 rcases h with ⟨h1,rfl⟩ | ⟨h1,s,hm,hc,h2⟩
 · exact⟨whenC false,by unfold askM;rw [if_pos h1],rfl⟩
 · have hf:findR natO SesT.client c.client m.sess=some s:=(find_some hs).2 ⟨hm,hc⟩
   rcases h2 with ⟨h3,rfl⟩ | ⟨h3,h4,h5⟩
   · refine⟨resC 4,?_,rfl⟩
     unfold askM
     rw [h1,if_neg (by simp),hf]
     dsimp only
     rw [if_pos h3]
   · refine⟨⟨s.code,s.version,[],0⟩,?_,h5⟩
     unfold askM
     rw [h1,if_neg (by simp),hf]
     dsimp only
     rw [if_neg (by omega),if_pos ⟨h3,h4⟩]
theorem held_again {c:CmdT} {rc:Int} (hk:c.kind=1∨c.kind=4) (hs:Ris natO SesT.client m.sess) (h:Held c rc m.sess) (l:Nat):(applyM P m l c).1={ m with last:=l }∧(applyM P m l c).2.code=rc:=by
 obtain⟨r,h1,h2⟩:=held_ask (m:={ m with last:=l }) hs h
 unfold applyM stepM
 rcases hk with hk | hk
 · rw [if_pos hk]
   unfold beginM
   rw [h1]
   exact⟨rfl,h2⟩
 · rw [if_neg (by omega),if_neg (by omega),if_neg (by omega),if_pos hk]
   unfold removeM
   rw [h1]
   exact⟨rfl,h2⟩
theorem step_sess (h:Good P m) (b:CmdT) {s:SesT} (hs:s ∈ m.sess) (hb:b.client≠s.client) :
 s ∈ (stepM P m b).1.sess∨(s.opn=true∧∃t ∈ (stepM P m b).1.sess,t.client=s.client∧t.seq=s.seq):=by
 have put:∀ {ss:List SesT} {t:SesT},ss=m.sess→t.client=b.client→s ∈ putR natO SesT.client t ss:=fun {ss t} e ht=>by
  rw [e]
  exact (mem_put h.base.sess).2 (.inr ⟨hs,fun e=>hb (by rw [← ht];exact e.symm)⟩)
 have shut:∀ {ss:List SesT} {x:IntT} {v:Nat} {cd:Int},ss=m.sess→x ∈ m.ints→(s ∈ putR natO SesT.client ⟨x.client,x.seq,false,v,cd⟩ ss∨(s.opn=true∧∃t ∈ putR natO SesT.client ⟨x.client,x.seq,false,v,cd⟩ ss,t.client=s.client∧t.seq=s.seq)):=fun {ss x v cd} e hx=>by
  rw [e]
  by_cases hc:x.client=s.client
  · obtain⟨t,h1,h2,mt⟩:=h.rel.bw x hx
    have:t=s:=h.base.sess.uniq h1 hs (by rw [← mt.cl];exact hc)
    subst this
    exact .inr ⟨h2,_,(mem_put h.base.sess).2 (.inl rfl),hc,mt.seq⟩
  · exact .inl ((mem_put h.base.sess).2 (.inr ⟨hs,fun e=>hc e.symm⟩))
 unfold stepM
 split
 · unfold beginM
   cases e:askM m b with
   | inl r=>exact .inl hs
   | inr m' =>
     obtain⟨-,-,es,-⟩:=ask_good h b e
     exact .inl (put es rfl)
 split
 · unfold commitM
   cases e:findR natO verI b.version m.ints with
   | none=>exact .inl hs
   | some x =>
     obtain⟨hx,-⟩:=(find_some h.base.ints).1 e
     have hb1:Base P { m with ints:=dropR natO verI b.version m.ints }:=h.base.less (os:=m.objs) (ws:=m.wass) h.base.objs (ris_drop h.base.ints) h.base.wass (fun _ k=>k) (fun y hy=>((mem_drop_ h.base.ints).1 hy).1)
     obtain⟨-,e1,-⟩:=away_base hb1 x.obj.key
     exact shut (ss:=(awayM { m with ints:=dropR natO verI b.version m.ints } x.obj.key).1.sess) e1 hx
 split
 · unfold abortM
   cases e:findR natO verI b.version m.ints with
   | none=>exact .inl hs
   | some x =>
     obtain⟨hx,-⟩:=(find_some h.base.ints).1 e
     exact shut (ss:=m.sess) rfl hx
 split
 · unfold removeM
   cases e:askM m b with
   | inl r=>exact .inl hs
   | inr m' =>
     obtain⟨hb1,-,es,-⟩:=ask_good h b e
     obtain⟨-,e1,-⟩:=away_base hb1 b.key
     exact .inl (put (ss:=(awayM m' b.key).1.sess) (e1.trans es) rfl)
 split
 · refine .inl ?_
   unfold comingM
   split <;> exact hs
 split
 · refine .inl ?_
   unfold movedM
   split
   · exact hs
   · split <;> exact hs
 split
 · refine .inl ?_
   unfold cutM
   split
   · exact hs
   split
   · exact hs
   dsimp only
   split <;> exact hs
 split
 · exact .inl hs
 split
 · refine .inl ?_
   unfold liveM
   split
   · dsimp only
     split <;> exact hs
   · exact hs
 · exact .inl hs
theorem held_step (h:Good P m) {c b:CmdT} {rc:Int} (hh:Held c rc m.sess) (hb:b.client≠c.client):Held c rc (stepM P m b).1.sess:=by
 rcases hh with hh | ⟨h1,s,hm,hc,h2⟩
 · exact .inl hh
 · rcases step_sess h b hm (by rw [hc];exact hb) with h3 | ⟨h3,t,ht,e1,e2⟩
   · exact .inr ⟨h1,s,h3,hc,h2⟩
   · rcases h2 with ⟨h4,h5⟩ | ⟨h4,h5,-⟩
     · exact .inr ⟨h1,t,ht,e1.trans hc,.inl ⟨by rw [e2];exact h4,h5⟩⟩
     · rw [h3] at h5;cases h5
theorem first_held (h:Good P m) (e:Ext m) {c:CmdT} (hk:c.kind=1∨c.kind=4) :
 (c.kind=1∧(stepM P m c).2.code=0∧askBad c=false∧∃x ∈ (stepM P m c).1.ints,x.obj.version=(stepM P m c).2.version∧x.client=c.client∧x.seq=c.seq) ∨
 (¬ (c.kind=1∧(stepM P m c).2.code=0)∧Held c (stepM P m c).2.code (stepM P m c).1.sess):=by
 have inl:∀ {r},askM m c = .inl r→r.code≠0∧Held c r.code m.sess:=fun {r} ea=>by
  unfold askM at ea
  cases hb:askBad c with
  | true =>
    rw [hb,if_pos rfl] at ea
    injection ea with ea
    subst ea
    exact⟨by decide,.inl ⟨hb,rfl⟩⟩
  | false =>
    rw [hb,if_neg (by simp)] at ea
    cases hf:findR natO SesT.client c.client m.sess with
    | none=>rw [hf] at ea;cases ea
    | some s =>
      rw [hf] at ea
      obtain⟨hs,hc⟩:=(find_some h.base.sess).1 hf
      simp only at ea
      by_cases h1:c.seq<s.seq
      · rw [if_pos h1] at ea
        injection ea with ea
        subst ea
        exact⟨by decide,.inr ⟨hb,s,hs,hc,.inl ⟨h1,rfl⟩⟩⟩
      rw [if_neg h1] at ea
      by_cases h2:s.seq=c.seq∧s.opn=false
      · rw [if_pos h2] at ea
        injection ea with ea
        subst ea
        refine⟨?_,.inr ⟨hb,s,hs,hc,.inr ⟨h2.1,h2.2,rfl⟩⟩⟩
        have:=e.sc s hs h2.2
        show s.code≠0
        omega
      rw [if_neg h2] at ea
      by_cases h3:s.opn=true
      · rw [if_pos h3] at ea
        split at ea <;> cases ea
      · rw [if_neg h3] at ea;cases ea
 unfold stepM
 rcases hk with hk | hk
 · rw [if_pos hk]
   unfold beginM
   cases ea:askM m c with
   | inl r =>
     obtain⟨h1,h2⟩:=inl ea
     exact .inr ⟨fun k=>h1 k.2,h2⟩
   | inr m' =>
     obtain⟨-,-,-,-,-,-,hbad,-⟩:=ask_good h c ea
     exact .inl ⟨hk,rfl,hbad,_,List.mem_append_right _ (List.mem_singleton.2 rfl),rfl,rfl,rfl⟩
 · rw [if_neg (by omega),if_neg (by omega),if_neg (by omega),if_pos hk]
   unfold removeM
   cases ea:askM m c with
   | inl r =>
     obtain⟨h1,h2⟩:=inl ea
     exact .inr ⟨fun k=>by omega,h2⟩
   | inr m' =>
     obtain⟨hb1,-,es,-,-,-,hbad,-⟩:=ask_good h c ea
     obtain⟨hb2,-⟩:=away_base hb1 c.key
     exact .inr ⟨fun k=>by omega,.inr ⟨hbad,_,(mem_put hb2.sess).2 (.inl rfl),rfl,.inr ⟨rfl,rfl,rfl⟩⟩⟩
theorem commit_held (h:Good P m) {c b:CmdT} (hb:b.kind=2) (hbad:askBad c=false) {x:IntT} (hx:x ∈ m.ints) (hv:x.obj.version=b.version) (hc:x.client=c.client) (hq:x.seq=c.seq) :
 (stepM P m b).2.code=1∧Held c 1 (stepM P m b).1.sess:=by
 unfold stepM
 rw [if_neg (by omega),if_pos hb]
 unfold commitM
 have hf:findR natO verI b.version m.ints=some x:=(find_some h.base.ints).2 ⟨hx,hv⟩
 rw [hf]
 have hb1:Base P { m with ints:=dropR natO verI b.version m.ints }:=h.base.less (os:=m.objs) (ws:=m.wass) h.base.objs (ris_drop h.base.ints) h.base.wass (fun _ k=>k) (fun y hy=>((mem_drop_ h.base.ints).1 hy).1)
 obtain⟨hb2,-⟩:=away_base hb1 x.obj.key
 exact⟨rfl,.inr ⟨hbad,_,(mem_put hb2.sess).2 (.inl rfl),hc,.inr ⟨hq,rfl,rfl⟩⟩⟩
end
section
variable {m:MetT} {i:Nat}
theorem RunS.later (h:RunS m i):Good plF { m with last:=i+1 }∧Ext { m with last:=i+1 }:=⟨h.inv.good.later (by have:=h.last;omega),h.inv.ext.later (by have:=h.last;omega)⟩
theorem RunS.first (h:RunS m i) {c:CmdT} (hk:c.kind=1∨c.kind=4) :
 (c.kind=1∧(applyM plF m (i+1) c).2.code=0∧askBad c=false∧∃x ∈ (applyM plF m (i+1) c).1.ints,x.obj.version=(applyM plF m (i+1) c).2.version∧x.client=c.client∧x.seq=c.seq) ∨
 (¬ (c.kind=1∧(applyM plF m (i+1) c).2.code=0)∧Held c (applyM plF m (i+1) c).2.code (applyM plF m (i+1) c).1.sess):=first_held h.later.1 h.later.2 hk
theorem RunS.commit (h:RunS m i) {c b:CmdT} (hb:b.kind=2) (hbad:askBad c=false) {x:IntT} (hx:x ∈ m.ints) (hv:x.obj.version=b.version) (hc:x.client=c.client) (hq:x.seq=c.seq) :
 (applyM plF m (i+1) b).2.code=1∧Held c 1 (applyM plF m (i+1) b).1.sess:=commit_held h.later.1 hb hbad hx hv hc hq
theorem RunS.held (h:RunS m i) {c b:CmdT} {rc:Int} (hh:Held c rc m.sess) (hb:b.client≠c.client):Held c rc (applyM plF m (i+1) b).1.sess:=held_step h.later.1 (m:={ m with last:=i+1 }) hh hb
theorem RunS.again (h:RunS m i) {c:CmdT} {rc:Int} (hk:c.kind=1∨c.kind=4) (hh:Held c rc m.sess) (l:Nat):(applyM plF m l c).1={ m with last:=l }∧(applyM plF m l c).2.code=rc:=held_again hk h.inv.good.base.sess hh l
end
end
section
open Go.RowKit OctMath
theorem Tryz.infoU8:(Tryz.prog.info? 5).map (fun i=>(i.zero,i.size,i.bytes))=some (some (.int .u8 0),1,1):=by kernel_rfl
theorem or128_ck:((List.range 256).all fun x=>Nat.beq (x ||| 128) (x % 128+128))=true:=by decide +kernel
theorem own_baseO {w:World} {base base':Nat} {e:TypeId} {size n:Nat} {v:Value} {xs:List Value} (h:w.ownsRow base e size v n xs) (hb:base'≤base):w.ownsRow base' e size v n xs:=by
 obtain⟨h0,h1⟩:=h
 refine⟨h0,?_⟩
 rcases h1 with h1 | ⟨g,cap,cur,h2,h3,h4⟩
 · exact .inl h1
 · exact .inr ⟨g,cap,cur,h2,Nat.le_trans hb h3,h4⟩
theorem zz_pos {n:Int} (h:0≤n) (h2:n≤9223372036854775807):((zz n:Nat):Int)=2*n:=by unfold zz;rw [if_pos h];omega
theorem zz_neg {n:Int} (h:n<0):((zz n:Nat):Int) = -2*n - 1:=by unfold zz;rw [if_neg (by omega)];omega
theorem zz_lt {n:Int} (h1 : -9223372036854775808≤n) (h2:n≤9223372036854775807):zz n<18446744073709551616:=by
 unfold zz;split <;> omega
end
section
open Go.RowKit OctMath
theorem copied_any (A:Option Addr) (cap n:Nat) (xs:List Value) (w:World) (hr:Reads w w.heap.size 1 A n xs) (h1:∀u ∈ xs,u.oneCell'=true) (hm:n≤140737488351232) :
 Calls Tryz.prog 156 #[.slice A n cap] w (RetS 5 xs w):=by
 have hn:xs.length=n:=by simpa using hr.1
 go_enter Tryz.func156,Tryz.ntmps156
 go_wp2_with (at_builtin
              refine wpl_append rfl (.tmp 3) (.tmp 4) _ rfl w w.heap.size 5 _ 1 1 Tryz.underlying77 Tryz.infoU8 rfl (by decide) (.slice (some ⟨w.heap.size,0,none⟩) 0 0) 0 [] rfl ?own (w.heap.size+1) A n cap xs rfl ?rd h1 (by omega) (by decide) ?bel ?base ?_
              case own=>exact World.ownsRow_lit _ #[] 0 (Nat.le_refl _) (by unfold maxLen;omega) rfl
              case rd=>exact (hr.alloc (Nat.le_refl _) _).more (by simp)
              case bel=>exact (Below.refl _ _).alloc (Nat.le_refl _) _
              case base=>simp
              intro v1 w1 hh)
 go_ret
 refine⟨v1,rfl,?_,hh.out.2.1⟩
 have h:=hh.out.1
 rw [hn]
 simpa using h
def RNum (w:World) (xs:List Value) (n m:Nat) (v:Value) (wr:World):Prop :=
 ∃pre:List Nat,putN n=pre ++ putN m∧wr.ownsRow w.heap.size 5 1 v (xs ++ pre.map bv).length (xs ++ pre.map bv)∧Below w.heap.size w wr
theorem and127 (m:Nat) (h:m<18446744073709551616):bits .and .u64 (m:Int) 127=((m % 128:Nat):Int):=by
 have h1:=u64_and_nat m 127 h (by omega)
 rw [show m &&& 127=m % 128 from Nat.and_two_pow_sub_one_eq_mod m 7] at h1
 exact h1
theorem or128' (m:Nat):bits .or .u8 ((m:Int) % 128) 128=((m % 128+128:Nat):Int):=by
 have h:=u8_or_nat (m % 128) 128 (by omega) (by omega)
 have h2:=List.all_eq_true.1 or128_ck (m % 128) (List.mem_range.2 (by omega))
 rw [Nat.eq_of_beq_eq_true h2,show m % 128 % 128=m % 128 from by omega] at h
 exact h
theorem rputnum_any (A:Option Addr) (cap l n:Nat) (xs:List Value) (w:World) (hr:Reads w w.heap.size 1 A l xs) (h1:∀u ∈ xs,u.oneCell'=true) (hn:n<18446744073709551616) (hm:l≤140737488351232) :
 Calls Tryz.prog 143 #[.slice A l cap,.int .u64 n] w (RetS 5 (xs ++ (putN n).map bv) w):=by
 have HR:=Lh hr
 have hl:xs.length=l:=by simpa using hr.1
 clear hr
 have h10:=putN_len10 hn
 go_enter Tryz.func143,Tryz.ntmps143
 go_wp2_with fail
 refine (copied_any A cap l xs _ HR.out h1 hm).mono ?_
 rintro e w1 ⟨v,rfl,ho,hb⟩
 have HO:=Lh ho
 clear ho
 go_wp2_with fail
 go_loopw [1,5] (fun vn vv wr=>∃m:Nat,m≤n∧vn = .int .u64 m∧RNum w xs n m vv wr) (fun vn _ _=>(intOf vn).toNat)
 case atStart=>exact⟨n,Nat.le_refl _,rfl,[],rfl,by simpa using HO.out,hb⟩
 case round =>
  obtain⟨m,hmn,rfl,pre,hpn,hO,hB⟩:=hrel
  clear hb HO HR
  have HO:=Lh hO
  clear hO
  have hlen:pre.length+(putN m).length≤10:=by rw [hpn,List.length_append] at h10;exact h10
  have hpos:=putN_pos m
  have hlx:(xs ++ pre.map bv).length≤l+10:=by rw [List.length_append,List.length_map,hl];omega
  have HP:=Lh hpn
  clear hpn h10
  by_cases hb:m<128
  · have hs:=Lh (putN_small hb)
    have hb2:(m:Int) % 256=m:=by omega
    go_wp2_with (at_builtin
                 refine wpl_append rfl (.tmp 19) (.tmp 22) _ rfl w w.heap.size 5 _ 1 1 Tryz.underlying77 Tryz.infoU8 rfl (by decide) u5 (xs ++ pre.map bv).length (xs ++ pre.map bv) rfl ?own (wr.heap.size+1) (some ⟨wr.heap.size,0,none⟩) 1 1 [bv m] rfl ?rd (bv_one [m]) ?byt (by decide) ?bel ?base ?_
                 case own=>exact HO.out.alloc _
                 case rd=>exact Reads.lit1 wr 5 (bv m)
                 case byt=>omega
                 case bel=>exact hB.alloc hB.size _
                 case base=>(simp;exact Nat.le_succ_of_le hB.size)
                 intro v2 w2 hh)
    go_ret
    refine⟨v2,rfl,?_,hh.out.2.1⟩
    have h:=hh.out.1
    rw [HP.out,hs.out,List.map_append,← List.append_assoc,List.length_append]
    exact h
  · have hs:=Lh (putN_big hb)
    have x1:=and127 m (by omega)
    have x2:=or128' m
    have x3:((m % 128:Nat):Int)=(m:Int) % 128:=by omega
    have x4:(m:Int) % 128 % 256=(m:Int) % 128:=by omega
    rw [x3] at x1
    obtain⟨d,ed⟩:∃d,m % 128+128=d:=⟨_,rfl⟩
    rw [ed] at x2
    have ED:=Lh ed
    clear ed x3
    go_wp2_with (at_builtin
                 refine wpl_append rfl (.tmp 10) (.tmp 15) _ rfl w w.heap.size 5 _ 1 1 Tryz.underlying77 Tryz.infoU8 rfl (by decide) u5 (xs ++ pre.map bv).length (xs ++ pre.map bv) rfl ?own (wr.heap.size+1) (some ⟨wr.heap.size,0,none⟩) 1 1 [bv d] rfl ?rd (bv_one [d]) ?byt (by decide) ?bel ?base ?_
                 case own=>exact HO.out.alloc _
                 case rd=>exact Reads.lit1 wr 5 (bv d)
                 case byt=>omega
                 case bel=>exact hB.alloc hB.size _
                 case base=>(simp;exact Nat.le_succ_of_le hB.size)
                 intro v2 w2 hh)
    refine⟨⟨m / 128,by omega,by simp,pre ++ [d],?_,?_,hh.out.2.1⟩,by simp [intOf];omega⟩
    · rw [HP.out,hs.out,ED.out];simp
    · have h:=hh.out.1
      rw [List.map_append,← List.append_assoc,List.length_append]
      exact h
theorem putN_len1 (n:Nat) (h:n<18446744073709551616):((putN n).map bv).length≤10:=by rw [List.length_map];exact putN_len10 h
theorem rputbytes_any (A B:Option Addr) (cap cap' l m:Nat) (xs ys:List Value) (w:World) (hr:Reads w w.heap.size 1 A l xs) (h1:∀u ∈ xs,u.oneCell'=true) (hr':Reads w w.heap.size 1 B m ys) (h2:∀u ∈ ys,u.oneCell'=true) (hm:l+m+10≤140737488351232) :
 Calls Tryz.prog 167 #[.slice A l cap,.slice B m cap'] w (RetS 5 (xs ++ (putN m).map bv ++ ys) w):=by
 have HR:=Lh hr
 have HR':=Lh hr'
 have hl:xs.length=l:=by simpa using hr.1
 have hl':ys.length=m:=by simpa using hr'.1
 have h10:=putN_len10 (n:=m) (by omega)
 clear hr hr'
 go_enter Tryz.func167,Tryz.ntmps167
 go_wp2_with fail
 refine (rputnum_any A cap l m xs _ HR.out h1 (by omega) (by omega)).mono ?_
 rintro e w1 ⟨v,rfl,ho,hb⟩
 have HO:=Lh ho
 clear ho
 go_wp2_with (at_builtin
              refine wpl_append rfl (.tmp 9) (.tmp 10) _ rfl w w.heap.size 5 _ 1 1 Tryz.underlying77 Tryz.infoU8 rfl (by decide) v (xs ++ (putN m).map bv).length (xs ++ (putN m).map bv) rfl ?own w.heap.size B m cap' ys rfl ?rd h2 ?byt (by decide) ?bel ?base ?_
              case own=>exact HO.out
              case rd=>exact HR'.out.below hb
              case byt=>rw [List.length_append,List.length_map];omega
              case bel=>exact hb
              case base=>exact hb.size
              intro v2 w2 hh)
 go_ret
 refine⟨v2,rfl,?_,hh.out.2.1⟩
 have h:=hh.out.1
 rw [show (xs ++ (putN m).map bv ++ ys).length=(xs ++ (putN m).map bv).length+m from by rw [List.length_append,hl']]
 exact h
theorem rputflag_any (f:Bool) (A:Option Addr) (cap l:Nat) (xs:List Value) (w:World) (hr:Reads w w.heap.size 1 A l xs) (h1:∀u ∈ xs,u.oneCell'=true) (hm:l≤140737488351232) :
 Calls Tryz.prog 154 #[.slice A l cap,.bool f] w (RetS 5 (xs ++ [bv f.toNat]) w):=by
 have HR:=Lh hr
 have hl:xs.length=l:=by simpa using hr.1
 clear hr
 rcases f with _ | _
 · go_enter Tryz.func154,Tryz.ntmps154
   go_wp2_with fail
   refine (copied_any A cap l xs _ HR.out h1 hm).mono ?_
   rintro e w1 ⟨v,rfl,ho,hb⟩
   have HO:=Lh ho
   clear ho
   go_wp2_with (at_builtin
                refine wpl_append rfl (.tmp 11) (.tmp 12) _ rfl w w.heap.size 5 _ 1 1 Tryz.underlying77 Tryz.infoU8 rfl (by decide) v xs.length xs rfl ?own (w1.heap.size+1) (some ⟨w1.heap.size,0,none⟩) 1 1 [bv 0] rfl ?rd (bv_one [0]) ?byt (by decide) ?bel ?base ?_
                case own=>exact HO.out.alloc _
                case rd=>exact Reads.lit1 w1 5 (bv 0)
                case byt=>omega
                case bel=>exact hb.alloc hb.size _
                case base=>(simp;exact Nat.le_succ_of_le hb.size)
                intro v2 w2 hh)
   go_ret
   exact⟨v2,rfl,by have h:=hh.out.1;rw [List.length_append];exact h,hh.out.2.1⟩
 · go_enter Tryz.func154,Tryz.ntmps154
   go_wp2_with fail
   refine (copied_any A cap l xs _ HR.out h1 hm).mono ?_
   rintro e w1 ⟨v,rfl,ho,hb⟩
   have HO:=Lh ho
   clear ho
   go_wp2_with (at_builtin
                refine wpl_append rfl (.tmp 7) (.tmp 8) _ rfl w w.heap.size 5 _ 1 1 Tryz.underlying77 Tryz.infoU8 rfl (by decide) v xs.length xs rfl ?own (w1.heap.size+1) (some ⟨w1.heap.size,0,none⟩) 1 1 [bv 1] rfl ?rd (bv_one [1]) ?byt (by decide) ?bel ?base ?_
                case own=>exact HO.out.alloc _
                case rd=>exact Reads.lit1 w1 5 (bv 1)
                case byt=>omega
                case bel=>exact hb.alloc hb.size _
                case base=>(simp;exact Nat.le_succ_of_le hb.size)
                intro v2 w2 hh)
   go_ret
   exact⟨v2,rfl,by have h:=hh.out.1;rw [List.length_append];exact h,hh.out.2.1⟩
theorem rputint_any (A:Option Addr) (cap l:Nat) (n:Int) (xs:List Value) (w:World) (hr:Reads w w.heap.size 1 A l xs) (h1:∀u ∈ xs,u.oneCell'=true) (n1 : -9223372036854775808≤n) (n2:n≤9223372036854775807) (hm:l≤140737488351232) :
 Calls Tryz.prog 137 #[.slice A l cap,.int .i64 n] w (RetS 5 (xs ++ (putN (zz n)).map bv) w):=by
 have HR:=Lh hr
 clear hr
 have hz:=zz_lt n1 n2
 by_cases hs:0≤n
 · have e:=zz_pos hs n2
   have E:=Lh e
   clear e
   go_enter Tryz.func137,Tryz.ntmps137
   go_wp2_with fail
   rw [← E.out]
   refine (rputnum_any A cap l (zz n) xs _ HR.out h1 hz hm).mono ?_
   rintro e w2 h
   obtain⟨v,rfl,h3⟩:=h
   go_wp2
   go_ret
   exact⟨v,rfl,h3⟩
 · have e:((zz n:Nat):Int)=2*(-1 - n)+1:=by have:=zz_neg (n:=n) (by omega);omega
   have E:=Lh e
   have n3:0≤-1 - n:=by omega
   have n4 : -1 - n≤9223372036854775807:=by omega
   clear e
   go_enter Tryz.func137,Tryz.ntmps137
   go_wp2_with fail
   rw [← E.out]
   refine (rputnum_any A cap l (zz n) xs _ HR.out h1 hz hm).mono ?_
   rintro e w2 h
   obtain⟨v,rfl,h3⟩:=h
   go_wp2
   go_ret
   exact⟨v,rfl,h3⟩
end
end Go.Proofs.YtdoneomahlfkbaaGreat
