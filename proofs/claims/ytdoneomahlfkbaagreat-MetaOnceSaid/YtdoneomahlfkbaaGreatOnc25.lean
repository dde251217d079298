/- COMMANDS FROM A FRESH STATE ON, and what numbers the state holds. (printed by gen_mel9.py). (joined out of MeL9 by shake.py) -/
import Derived.Test.YtdoneomahlfkbaaGreatOnc24
set_option linter.unusedVariables false
set_option linter.unusedSimpArgs false
set_option maxRecDepth 100000
set_option maxHeartbeats 16000000
namespace Go.Proofs.YtdoneomahlfkbaaGreat
section
open Go.RowKit OctMath StrMath PlMath
theorem run_wid (A:Option Addr) (n cap:Nat) (cms:List CM) (w:World) (HRD:Hid (Reads w w.heap.size 16 A n (cms.flatMap cmL))) (HLN:Hid (cms.length=n)) (HCW:Hid (∀m ∈ cms,CmW w m)) (hn:n≤1000) :
 Calls Tryz.prog 8 #[.slice A n cap] w fun e w'=>∃m,e = .returned (.tuple #[.agg m.cs,.bool true])∧MIn m w'∧RunS m.x n∧Wid m.x∧Below w.heap.size w w':=by
 go_enter Tryz.func8,Tryz.ntmps8
 go_upto_region 1 with (fail)
 have hz:=Blk.new w 34 mZ
 have hb0:Below w.heap.size w (w.alloc (.cells mZ 34)):=(Below.refl _ _).alloc (Nat.le_refl _) _
 have eM:(.cells #[.int .i64 0,.int .i64 0,.int .i64 0,.int .u64 0,.slice none 0 0,.int .u64 0,.slice none 0 0,.slice none 0 0,.slice none 0 0,.slice none 0 0,.slice none 0 0,.slice none 0 0,.slice none 0 0,.int .u64 0] 34:Obj) = .cells mZ 34:=rfl
 rw [eM]
 obtain⟨w1,ew1⟩:∃w1,w.alloc (.cells mZ 34)=w1:=⟨_,rfl⟩
 rw [ew1] at hz hb0 ⊢
 have HZ:=Lh hz
 have HB0:=Lh hb0
 clear ew1 hz hb0 eM
 obtain⟨b2,e2⟩:∃b2,w.heap.size=b2:=⟨_,rfl⟩
 have E2:=Lh e2
 rw [e2] at HZ ⊢
 clear e2
 have hrow:(⟨2,some ⟨w1.heap.size,0,none⟩,4,4,mcells ms4⟩:RowT).In (w1.alloc (.cells #[.int .i64 1,.int .i64 1,.int .i64 2,.int .i64 2,.int .i64 3,.int .i64 1,.int .i64 4,.int .i64 1] 67)):=⟨reads_blk (Blk.new w1 67 _) rfl,Nat.le_refl _,by show 4≤maxLen;unfold maxLen;omega⟩
 have hnew:=new_any 2 3 4 ms4 (some ⟨w1.heap.size,0,none⟩) 4 _ (Lh hrow) (Lh run_new.may)
 have hin:=newMM_in (k:=2) (n:=3) (gs:=4) (ms:=ms4) hrow
 have hof:(newMM 2 3 4 ms4 (some ⟨w1.heap.size,0,none⟩) 4).All (·.Off b2):=by
  have hne:w1.heap.size≠b2:=by have:=HZ.out.lt;omega
  have h1:(⟨2,some ⟨w1.heap.size,0,none⟩,4,4,mcells ms4⟩:RowT).Off b2:=fun _ ad e=>by injection e with e;rw [← e];exact hne
  have h0:∀K,(⟨K,none,0,0,[]⟩:RowT).Off b2:=fun K h=>absurd h (Nat.lt_irrefl 0)
  exact MM.All.mk' h1 h1 (h0 1) (h0 7) (h0 9) (h0 5) (h0 4) (h0 1) (fun o k=>by cases k) (fun o k=>by cases k)
 have hba:Below w1.heap.size w1 (w1.alloc (.cells #[.int .i64 1,.int .i64 1,.int .i64 2,.int .i64 2,.int .i64 3,.int .i64 1,.int .i64 4,.int .i64 1] 67)):=(Below.refl _ _).alloc (Nat.le_refl _) _
 obtain⟨m0,em0⟩:∃m0,newMM 2 3 4 ms4 (some ⟨w1.heap.size,0,none⟩) 4=m0:=⟨_,rfl⟩
 have EM0:=Lh (show m0.x=newM 2 3 4 ms4 from by rw [← em0];rfl)
 rw [em0] at hnew hin hof
 have HNEW:=Lh hnew
 have HIN:=Lh hin
 have HOF:=Lh hof
 have HBA:=Lh hba
 clear em0 hnew hin hof hba hrow
 obtain⟨cs0,ecs0⟩:∃cs0,m0.cs=cs0:=⟨_,rfl⟩
 have EC0:=Lh ecs0
 have HS0:=Lh (show cs0.size=14 from by rw [← ecs0];rfl)
 have HO0:=Lh (show cs0.toList.all (·.oneCell')=true from by rw [← ecs0];rfl)
 rw [ecs0] at HNEW
 clear ecs0
 go_upto_region 2 with (first
  | (go_at_call 13;refine HNEW.out.mono ?_;rintro e w2 ⟨rfl,hb2⟩;have HB2:=Lh hb2;clear hb2)
  | (refine wpl_store_blk rfl 34 (.tmp 4) (.tmp 18) rfl w2.heap.size 34 mZ cs0 rfl rfl (Blk.new w2 _ _) (by rw [HS0.out];rfl) (by rw [HS0.out];exact Tryz.szSt) HO0.out ?_;intro w3 hB3 hO3))
 have hb23:Below w2.heap.size w2 w3:=((Below.refl _ _).alloc (Nat.le_refl _) _).trans (hO3.out.below (Nat.le_refl _))
 have hin2:=HIN.out.later HB2.out
 have hb12:Below w1.heap.size w1 w2:=HBA.out.trans (HB2.out.mono HBA.out.size)
 have hb13:Below w1.heap.size w1 w3:=hb12.trans (hb23.mono hb12.size)
 have h24:b2<w2.heap.size:=Nat.lt_of_lt_of_le HZ.out.lt hb12.size
 have RW0:=Lh (show RunW w [b2,w2.heap.size] w2.heap.size m0 0 w3 from ⟨HB0.out.trans (hb13.mono HB0.out.size),by rw [EC0.out];exact hB3.out,hin2.later hb23,fun q hq=>by
  simp only [List.mem_cons,List.not_mem_nil,or_false] at hq
  rcases hq with rfl | rfl
  · exact HOF.out
  · exact hin2.rows.imp fun r hr=>hr.off (Nat.le_refl _),fun q hq=>by
  have h1:=hB3.out.lt
  have h2:=E2.out
  have h3:=HB0.out.size
  have h4:=hb12.size
  simp only [List.mem_cons,List.not_mem_nil,or_false] at hq
  rcases hq with rfl | rfl <;> omega,by simp,by rw [EM0.out];exact run_new⟩)
 have HZ3:=Lh (HZ.out.below hb13 HZ.out.lt)
 obtain⟨b4,e4⟩:∃b4,w2.heap.size=b4:=⟨_,rfl⟩
 rw [e4] at RW0 h24 ⊢
 have H24:=Lh h24
 obtain⟨GG,eGG⟩:∃GG,[b2,b4]=GG:=⟨_,rfl⟩
 have EGG:=Lh eGG
 rw [eGG] at RW0
 clear eGG e4 h24 hb13 hb12 hin2 hb23 hB3 hO3 HNEW HIN HOF HBA HS0 HO0 EC0
 go_wp2_with fail
 go_loopw [6] (fun vi wr=>∃ (k:Nat) (m:MM),k≤n∧vi = .int .i64 k∧Hid (RunW w GG b4 m k wr)∧Hid (Blk wr b2 34 mZ)∧Hid (Wid m.x)) (fun vi _=>n - (intOf vi).toNat)
 case atStart=>exact⟨0,m0,by omega,rfl,RW0,HZ3,Lh (by rw [EM0.out];exact new_wid _ _ _ _)⟩
 case round =>
  obtain⟨k,m,hk,rfl,RW,HZk,HK0⟩:=hrel
  by_cases hlt:k<n
  · have hmsl:k<cms.length:=by have:=HLN.out;omega
    obtain⟨ad,rfl,hadb,hcell⟩:=elem_cells (cells:=cmL) (K:=16) (fun _=>rfl) (HRD.out.later RW.out.bel) hmsl (by omega)
    have hcw:=HCW.out cms[k] (List.getElem_mem hmsl)
    obtain⟨cm,ecm⟩:∃cm,cms[k]=cm:=⟨_,rfl⟩
    rw [ecm] at hcell hcw
    have HCB:=Lh (And.intro hcw.ok.sq hcw.ok.sm)
    have HAD:=Lh hadb
    obtain⟨q,hq⟩:∃q,k+1=q:=⟨_,rfl⟩
    have HQ:=Lh hq
    have hw1:IntKind.i64.wrap ((k:Int)+1)=(q:Int):=by rw [IntKind.wrap_i64];omega
    have hw2:IntKind.u64.wrap (q:Int)=(q:Int):=by rw [IntKind.wrap_u64];omega
    have hap:=ap_calls RW.out.inn RW.out.run (by omega) RW.out.off RW.out.lt RW.out.bel cm hcw
    obtain⟨cs,ecs⟩:∃cs,m.cs=cs:=⟨_,rfl⟩
    have ECS:=Lh ecs
    have HCS:=Lh (show cs.size=14 from by rw [← ecs];rfl)
    have HCO:=Lh (show cs.toList.all (·.oneCell')=true from by rw [← ecs];rfl)
    have HBS:=Lh (show Blk wr b4 34 cs from by rw [← ecs];exact RW.out.blk)
    obtain⟨ks,eks⟩:∃ks,cmdCs cm.x cm.A cm.c=ks:=⟨_,rfl⟩
    have EKS:=Lh eks
    have HKS:=Lh (show ks.size=16 from by rw [← eks];rfl)
    have HC1:Hid (∀j' v,ks.toList[j']?=some v→wr.cell? ((ad.add (k*16)).add j')=some v):=by rw [← eks];exact Lh hcell
    have HAP:=Lh (show ∀W,Below wr.heap.size wr W→∀G1:List Nat,(∀q ∈ G1,wr.heap.size≤q∧q<W.heap.size)→Calls Tryz.prog 9 #[.agg cs,.int .u64 (q:Int),.agg ks] W (RetApp (applyM plF m.x (k+1) cm.x) (G1 ++ GG) W) from by rw [← hq,← ecs,← eks];exact hap)
    clear ecm hmsl hadb hcell hcw hq hap ecs eks
    go_upto_region 7 with (fail)
    go_cut [7,8,9] from 23 to 50 (fun s7 s8 s9 wx=>∃ (b7 b8:Nat) (m':MM) (rr:Array Value),s7 = .pointer (some ⟨b7,0,none⟩)∧s8 = .pointer (some ⟨b8,0,none⟩)∧s9 = .int .i64 0∧Hid (ApS wr GG (applyM plF m.x (k+1) cm.x) m' b7 b8 rr wx))
    case first =>
     refine wp_region_late (S0:=fun w'=>Below wr.heap.size wr w') (S:=fun _=>True) 16 18 (by kernel_rfl) rfl ⟨(Below.refl _ _).drew,trivial⟩ (fun x0 hwd hH=>?_)
     have BX0:=Lh (show Below wr.heap.size wr x0 from by rw [hwd];exact (Below.refl _ _).drew)
     clear hwd
     refine wpAnyT_stay 0 rfl (by kernel_rfl) (fun _ _ _ h=>h) (yields_load_blk rfl 34 (.tmp 4) rfl b4 34 cs _ rfl (fun w' hw'=>HBS.out.below hw' HBS.out.lt) Tryz.underlying34 rfl (by rw [HCS.out];exact Tryz.szSt)) ⟨hH.1,fun _=>hH.2⟩ ?_
     try simp only [Act.put,pA9,pZ9,pS9]
     refine tS 1 rfl ?_ hH ?_ ?_
     rotate_left
     · (intro wx hx;go_simp <;> with_reducible rfl)
     try simp only [Act.put,pA9,pZ9,pS9]
     refine tS 2 rfl ?_ hH ?_ ?_
     rotate_left
     · (intro wx hx;go_simp <;> with_reducible rfl)
     try simp only [Act.put,pA9,pZ9,pS9]
     refine tS 3 rfl ?_ hH ?_ ?_
     rotate_left
     · (intro wx hx;go_simp <;> with_reducible rfl)
     try simp only [Act.put,pA9,pZ9,pS9]
     refine tS 4 rfl ?_ hH ?_ ?_
     rotate_left
     · (intro wx hx;go_simp <;> with_reducible rfl)
     try simp only [Act.put,pA9,pZ9,pS9]
     refine tS 5 rfl ?_ hH ?_ ?_
     rotate_left
     · (intro wx hx;go_simp <;> with_reducible rfl)
     try simp only [Act.put,pA9,pZ9,pS9]
     refine tS 6 rfl ?_ hH ?_ ?_
     rotate_left
     · (intro wx hx;go_simp <;> with_reducible rfl)
     try simp only [Act.put,pA9,pZ9,pS9]
     refine wpAnyT_stay 7 rfl (by kernel_rfl) (fun _ _ _ h=>h) (yields_load_at rfl 48 (.tmp 36) rfl (ad.add (k*16)) ks.toList _ rfl (fun w' hw' j' v hv=>(Below.cell hw' (p:=(ad.add (k*16)).add j') (by rw [block_of_add,block_of_add];exact HAD.out)).trans (HC1.out j' v hv)) Tryz.underlying48 rfl (by rw [Array.length_toList,HKS.out];exact Tryz.szCm)) ⟨hH.1,fun _=>hH.2⟩ ?_
     try simp only [Act.put,pA9,pZ9,pS9]
     refine wpAnyT_three 8 13 14 rfl rfl rfl (by kernel_rfl) (fun K hQ=>?_) (fun K hQ=>?_) (fun K hQ=>?_)
     · rw [if_pos (by rfl)]
       go_simp
       (go_at_call 9;refine (HAP.out x0 BX0.out [] (fun q hq=>by cases hq)).mono ?_;rintro e x1 ⟨m',A',c',rfl,hin,hx',hb,hoff⟩)
       have BX1:=Lh (BX0.out.trans (hb.mono BX0.out.size))
       have HAI:=Lh (show ApI wr ([] ++ GG) m' x1 from ⟨BX1.out,hin,hoff⟩)
       have HX':=Lh hx'
       obtain⟨mcs,emcs⟩:∃mcs,m'.cs=mcs:=⟨_,rfl⟩
       have HMC:=Lh emcs
       have HMZ:=Lh (show mcs.size=14 from by rw [← emcs];rfl)
       have HMO:=Lh (show mcs.toList.all (·.oneCell')=true from by rw [← emcs];rfl)
       rw [emcs]
       obtain⟨rr,err⟩:∃rr,rcs (applyM plF m.x (k+1) cm.x).2 A' c'=rr:=⟨_,rfl⟩
       have HRR:=Lh err
       have HRZ:=Lh (show rr.size=4 from by rw [← err];rfl)
       have HRO:=Lh (show rr.toList.all (·.oneCell')=true from by rw [← err];rfl)
       rw [err]
       clear hb hin hoff hx' emcs err
       refine hQ.out _ _ ?_ (fun hH1=>?_)
       · exact⟨BX1.out,trivial⟩
       clear hQ K
       try simp only [Act.put,pA9,pZ9,pS9]
       refine tS 9 rfl ?_ hH1 ?_ ?_
       rotate_left
       · (intro wx hx;go_simp <;> with_reducible rfl)
       try simp only [Act.put,pA9,pZ9,pS9]
       refine tS 10 rfl ?_ hH1 ?_ ?_
       rotate_left
       · (intro wx hx;go_simp <;> with_reducible rfl)
       try simp only [Act.put,pA9,pZ9,pS9]
       refine tS 11 rfl ?_ hH1 ?_ ?_
       rotate_left
       · (intro wx hx;go_simp <;> with_reducible rfl)
       try simp only [Act.put,pA9,pZ9,pS9]
       refine tS 12 rfl ?_ hH1 ?_ ?_
       rotate_left
       · (intro wx hx;go_simp <;> with_reducible rfl)
       try simp only [Act.put,pA9,pZ9,pS9]
       refine wpAnyT_two 13 14 rfl rfl (by kernel_rfl) (fun K hQ=>?_) (fun K hQ=>?_)
       · rw [if_pos (by rfl)]
         go_simp
         obtain⟨x2,ew⟩:∃w6,x1.alloc (.cells mZ 34)=w6:=⟨_,rfl⟩
         have hb:Below x1.heap.size x1 (x1.alloc (.cells mZ 34)):=(Below.refl _ _).alloc (Nat.le_refl _) _
         have hg:=Blk.new x1 34 mZ
         rw [ew] at hb hg
         have ew':x1.alloc (.cells #[.int .i64 0,.int .i64 0,.int .i64 0,.int .u64 0,.slice none 0 0,.int .u64 0,.slice none 0 0,.slice none 0 0,.slice none 0 0,.slice none 0 0,.slice none 0 0,.slice none 0 0,.slice none 0 0,.int .u64 0] 34)=x2:=ew
         rw [ew']
         obtain⟨b7,eb⟩:∃b,x1.heap.size=b:=⟨_,rfl⟩
         have H7G:=Lh (show wr.heap.size≤b7 from by rw [← eb];exact BX1.out.size)
         have HAI:=Lh (HAI.out.alloc hb (Nat.le_of_eq eb))
         have BX2:=Lh (BX1.out.trans (hb.mono BX1.out.size))
         rw [eb] at hg ⊢
         have HP7:=Lh hg
         clear hb hg ew ew' eb
         refine hQ.out _ _ ?_ (fun hH2=>?_)
         · exact⟨BX2.out,trivial⟩
         clear hQ K
         try simp only [Act.put,pA9,pZ9,pS9]
         refine wpAnyT_one 14 rfl (by kernel_rfl) (fun K hQ=>?_)
         rw [if_pos (by rfl)]
         go_simp
         obtain⟨x3,ew⟩:∃w6,x2.alloc (.cells rZ 39)=w6:=⟨_,rfl⟩
         have hb:Below x2.heap.size x2 (x2.alloc (.cells rZ 39)):=(Below.refl _ _).alloc (Nat.le_refl _) _
         have hg:=Blk.new x2 39 rZ
         rw [ew] at hb hg
         have ew':x2.alloc (.cells #[.int .i64 0,.int .u64 0,.slice none 0 0,.int .u64 0] 39)=x3:=ew
         rw [ew']
         obtain⟨b8,eb⟩:∃b,x2.heap.size=b:=⟨_,rfl⟩
         have H8G:=Lh (show wr.heap.size≤b8 from by rw [← eb];exact BX2.out.size)
         have HNE:=Lh (show b7<b8 from by rw [← eb];exact HP7.out.lt)
         have HAI:=Lh (HAI.out.alloc hb (Nat.le_of_eq eb))
         have BX3:=Lh (BX2.out.trans (hb.mono BX2.out.size))
         have HP7:=Lh (HP7.out.below hb HP7.out.lt)
         rw [eb] at hg ⊢
         have HP8:=Lh hg
         clear hb hg ew ew' eb
         refine hQ.out _ _ ?_ (fun hH3=>?_)
         · exact⟨BX3.out,trivial⟩
         clear hQ K
         try simp only [Act.put,pA9,pZ9,pS9]
         refine wpAnyT_one 15 rfl (by kernel_rfl) (fun K hQ=>?_)
         refine step_store_blk rfl 34 (.tmp 7) (.tmp 39) rfl b7 34 mZ mcs rfl rfl HP7.out (by rw [HMZ.out];rfl) (by rw [HMZ.out];exact Tryz.szSt) HMO.out ?_
         intro x4 hB4 hO4
         have BX4:=Lh (BX3.out.trans (hO4.out.below H7G.out))
         refine hQ.out _ _ ?_ (fun hH315=>?_)
         · exact⟨BX4.out,trivial⟩
         clear hQ K
         try simp only [Act.put,pA9,pZ9,pS9]
         refine wpAnyT_last 16 rfl (by kernel_rfl) (by decide) (fun K hQ=>?_)
         refine step_store_blk rfl 39 (.tmp 8) (.tmp 40) rfl b8 39 rZ rr rfl rfl (hO4.out.blk HP8.out (by have:=HNE.out;omega)) (by rw [HRZ.out];rfl) (by rw [HRZ.out];exact Tryz.szR) HRO.out ?_
         intro x5 hB5 hO5
         have BX5:=Lh (BX4.out.trans (hO5.out.below H8G.out))
         refine hQ.out _ _ ?_ (fun hH316=>?_)
         · exact BX5.out
         clear hQ K
         try simp only [Act.put,pA9,pZ9,pS9]
         refine tT 17 rfl ?_ ⟨hH316,fun h=>absurd h (by decide)⟩ ?_ ?_
         rotate_left
         · (intro wx hx;go_simp <;> with_reducible rfl)
         try simp only [Act.put,pA9,pZ9,pS9]
         refine wpAnyT_done (by kernel_rfl) ?_ _
         go_wp2_with fail
         go_meet
         case rel=>exact⟨b7,b8,m',rr,rfl,rfl,rfl,Lh (ApS.mk' ((HAI.out.store hO4.out (by simp) H7G.out).store hO5.out (by simp) H8G.out) (fun q hq=>by simp [hq]) (by simp) (by simp) ⟨A',c',HRR.out.symm⟩ HX'.out (by rw [HMC.out];exact hO5.out.blk hB4.out (by have:=HNE.out;omega)) hB5.out H7G.out H8G.out)⟩
       · rw [if_pos (by rfl)]
         go_simp
         obtain⟨x2,ew⟩:∃w6,x1.alloc (.cells rZ 39)=w6:=⟨_,rfl⟩
         have hb:Below x1.heap.size x1 (x1.alloc (.cells rZ 39)):=(Below.refl _ _).alloc (Nat.le_refl _) _
         have hg:=Blk.new x1 39 rZ
         rw [ew] at hb hg
         have ew':x1.alloc (.cells #[.int .i64 0,.int .u64 0,.slice none 0 0,.int .u64 0] 39)=x2:=ew
         rw [ew']
         obtain⟨b8,eb⟩:∃b,x1.heap.size=b:=⟨_,rfl⟩
         have H8G:=Lh (show wr.heap.size≤b8 from by rw [← eb];exact BX1.out.size)
         have HAI:=Lh (HAI.out.alloc hb (Nat.le_of_eq eb))
         have BX2:=Lh (BX1.out.trans (hb.mono BX1.out.size))
         rw [eb] at hg ⊢
         have HP8:=Lh hg
         clear hb hg ew ew' eb
         refine hQ.out _ _ ?_ (fun hH2=>?_)
         · exact⟨BX2.out,trivial⟩
         clear hQ K
         try simp only [Act.put,pA9,pZ9,pS9]
         refine wpAnyT_one 13 rfl (by kernel_rfl) (fun K hQ=>?_)
         rw [if_pos (by rfl)]
         go_simp
         obtain⟨x3,ew⟩:∃w6,x2.alloc (.cells mZ 34)=w6:=⟨_,rfl⟩
         have hb:Below x2.heap.size x2 (x2.alloc (.cells mZ 34)):=(Below.refl _ _).alloc (Nat.le_refl _) _
         have hg:=Blk.new x2 34 mZ
         rw [ew] at hb hg
         have ew':x2.alloc (.cells #[.int .i64 0,.int .i64 0,.int .i64 0,.int .u64 0,.slice none 0 0,.int .u64 0,.slice none 0 0,.slice none 0 0,.slice none 0 0,.slice none 0 0,.slice none 0 0,.slice none 0 0,.slice none 0 0,.int .u64 0] 34)=x3:=ew
         rw [ew']
         obtain⟨b7,eb⟩:∃b,x2.heap.size=b:=⟨_,rfl⟩
         have H7G:=Lh (show wr.heap.size≤b7 from by rw [← eb];exact BX2.out.size)
         have HNE:=Lh (show b8<b7 from by rw [← eb];exact HP8.out.lt)
         have HAI:=Lh (HAI.out.alloc hb (Nat.le_of_eq eb))
         have BX3:=Lh (BX2.out.trans (hb.mono BX2.out.size))
         have HP8:=Lh (HP8.out.below hb HP8.out.lt)
         rw [eb] at hg ⊢
         have HP7:=Lh hg
         clear hb hg ew ew' eb
         refine hQ.out _ _ ?_ (fun hH3=>?_)
         · exact⟨BX3.out,trivial⟩
         clear hQ K
         try simp only [Act.put,pA9,pZ9,pS9]
         refine wpAnyT_one 15 rfl (by kernel_rfl) (fun K hQ=>?_)
         refine step_store_blk rfl 34 (.tmp 7) (.tmp 39) rfl b7 34 mZ mcs rfl rfl HP7.out (by rw [HMZ.out];rfl) (by rw [HMZ.out];exact Tryz.szSt) HMO.out ?_
         intro x4 hB4 hO4
         have BX4:=Lh (BX3.out.trans (hO4.out.below H7G.out))
         refine hQ.out _ _ ?_ (fun hH315=>?_)
         · exact⟨BX4.out,trivial⟩
         clear hQ K
         try simp only [Act.put,pA9,pZ9,pS9]
         refine wpAnyT_last 16 rfl (by kernel_rfl) (by decide) (fun K hQ=>?_)
         refine step_store_blk rfl 39 (.tmp 8) (.tmp 40) rfl b8 39 rZ rr rfl rfl (hO4.out.blk HP8.out (by have:=HNE.out;omega)) (by rw [HRZ.out];rfl) (by rw [HRZ.out];exact Tryz.szR) HRO.out ?_
         intro x5 hB5 hO5
         have BX5:=Lh (BX4.out.trans (hO5.out.below H8G.out))
         refine hQ.out _ _ ?_ (fun hH316=>?_)
         · exact BX5.out
         clear hQ K
         try simp only [Act.put,pA9,pZ9,pS9]
         refine tT 17 rfl ?_ ⟨hH316,fun h=>absurd h (by decide)⟩ ?_ ?_
         rotate_left
         · (intro wx hx;go_simp <;> with_reducible rfl)
         try simp only [Act.put,pA9,pZ9,pS9]
         refine wpAnyT_done (by kernel_rfl) ?_ _
         go_wp2_with fail
         go_meet
         case rel=>exact⟨b7,b8,m',rr,rfl,rfl,rfl,Lh (ApS.mk' ((HAI.out.store hO4.out (by simp) H7G.out).store hO5.out (by simp) H8G.out) (fun q hq=>by simp [hq]) (by simp) (by simp) ⟨A',c',HRR.out.symm⟩ HX'.out (by rw [HMC.out];exact hO5.out.blk hB4.out (by have:=HNE.out;omega)) hB5.out H7G.out H8G.out)⟩
     · rw [if_pos (by rfl)]
       go_simp
       obtain⟨x1,ew⟩:∃w6,x0.alloc (.cells mZ 34)=w6:=⟨_,rfl⟩
       have hb:Below x0.heap.size x0 (x0.alloc (.cells mZ 34)):=(Below.refl _ _).alloc (Nat.le_refl _) _
       have hg:=Blk.new x0 34 mZ
       rw [ew] at hb hg
       have ew':x0.alloc (.cells #[.int .i64 0,.int .i64 0,.int .i64 0,.int .u64 0,.slice none 0 0,.int .u64 0,.slice none 0 0,.slice none 0 0,.slice none 0 0,.slice none 0 0,.slice none 0 0,.slice none 0 0,.slice none 0 0,.int .u64 0] 34)=x1:=ew
       rw [ew']
       obtain⟨b7,eb⟩:∃b,x0.heap.size=b:=⟨_,rfl⟩
       have H7G:=Lh (show wr.heap.size≤b7 from by rw [← eb];exact BX0.out.size)
       have BX1:=Lh (BX0.out.trans (hb.mono BX0.out.size))
       rw [eb] at hg ⊢
       have HP7:=Lh hg
       clear hb hg ew ew' eb
       refine hQ.out _ _ ?_ (fun hH1=>?_)
       · exact⟨BX1.out,trivial⟩
       clear hQ K
       try simp only [Act.put,pA9,pZ9,pS9]
       refine wpAnyT_two 8 14 rfl rfl (by kernel_rfl) (fun K hQ=>?_) (fun K hQ=>?_)
       · rw [if_pos (by rfl)]
         go_simp
         (go_at_call 9;refine (HAP.out x1 BX1.out [b7] (fun q hq=>by simp only [List.mem_cons,List.not_mem_nil,or_false] at hq;rcases hq with rfl <;> exact⟨H7G.out,HP7.out.lt⟩)).mono ?_;rintro e x2 ⟨m',A',c',rfl,hin,hx',hb,hoff⟩)
         have BX2:=Lh (BX1.out.trans (hb.mono BX1.out.size))
         have HP7:=Lh (HP7.out.below hb HP7.out.lt)
         have HAI:=Lh (show ApI wr ([b7] ++ GG) m' x2 from ⟨BX2.out,hin,hoff⟩)
         have HX':=Lh hx'
         obtain⟨mcs,emcs⟩:∃mcs,m'.cs=mcs:=⟨_,rfl⟩
         have HMC:=Lh emcs
         have HMZ:=Lh (show mcs.size=14 from by rw [← emcs];rfl)
         have HMO:=Lh (show mcs.toList.all (·.oneCell')=true from by rw [← emcs];rfl)
         rw [emcs]
         obtain⟨rr,err⟩:∃rr,rcs (applyM plF m.x (k+1) cm.x).2 A' c'=rr:=⟨_,rfl⟩
         have HRR:=Lh err
         have HRZ:=Lh (show rr.size=4 from by rw [← err];rfl)
         have HRO:=Lh (show rr.toList.all (·.oneCell')=true from by rw [← err];rfl)
         rw [err]
         clear hb hin hoff hx' emcs err
         refine hQ.out _ _ ?_ (fun hH2=>?_)
         · exact⟨BX2.out,trivial⟩
         clear hQ K
         try simp only [Act.put,pA9,pZ9,pS9]
         refine tS 9 rfl ?_ hH2 ?_ ?_
         rotate_left
         · (intro wx hx;go_simp <;> with_reducible rfl)
         try simp only [Act.put,pA9,pZ9,pS9]
         refine tS 10 rfl ?_ hH2 ?_ ?_
         rotate_left
         · (intro wx hx;go_simp <;> with_reducible rfl)
         try simp only [Act.put,pA9,pZ9,pS9]
         refine tS 11 rfl ?_ hH2 ?_ ?_
         rotate_left
         · (intro wx hx;go_simp <;> with_reducible rfl)
         try simp only [Act.put,pA9,pZ9,pS9]
         refine tS 12 rfl ?_ hH2 ?_ ?_
         rotate_left
         · (intro wx hx;go_simp <;> with_reducible rfl)
         try simp only [Act.put,pA9,pZ9,pS9]
         refine wpAnyT_one 14 rfl (by kernel_rfl) (fun K hQ=>?_)
         rw [if_pos (by rfl)]
         go_simp
         obtain⟨x3,ew⟩:∃w6,x2.alloc (.cells rZ 39)=w6:=⟨_,rfl⟩
         have hb:Below x2.heap.size x2 (x2.alloc (.cells rZ 39)):=(Below.refl _ _).alloc (Nat.le_refl _) _
         have hg:=Blk.new x2 39 rZ
         rw [ew] at hb hg
         have ew':x2.alloc (.cells #[.int .i64 0,.int .u64 0,.slice none 0 0,.int .u64 0] 39)=x3:=ew
         rw [ew']
         obtain⟨b8,eb⟩:∃b,x2.heap.size=b:=⟨_,rfl⟩
         have H8G:=Lh (show wr.heap.size≤b8 from by rw [← eb];exact BX2.out.size)
         have HNE:=Lh (show b7<b8 from by rw [← eb];exact HP7.out.lt)
         have HAI:=Lh (HAI.out.alloc hb (Nat.le_of_eq eb))
         have BX3:=Lh (BX2.out.trans (hb.mono BX2.out.size))
         have HP7:=Lh (HP7.out.below hb HP7.out.lt)
         rw [eb] at hg ⊢
         have HP8:=Lh hg
         clear hb hg ew ew' eb
         refine hQ.out _ _ ?_ (fun hH3=>?_)
         · exact⟨BX3.out,trivial⟩
         clear hQ K
         try simp only [Act.put,pA9,pZ9,pS9]
         refine wpAnyT_one 15 rfl (by kernel_rfl) (fun K hQ=>?_)
         refine step_store_blk rfl 34 (.tmp 7) (.tmp 39) rfl b7 34 mZ mcs rfl rfl HP7.out (by rw [HMZ.out];rfl) (by rw [HMZ.out];exact Tryz.szSt) HMO.out ?_
         intro x4 hB4 hO4
         have BX4:=Lh (BX3.out.trans (hO4.out.below H7G.out))
         refine hQ.out _ _ ?_ (fun hH315=>?_)
         · exact⟨BX4.out,trivial⟩
         clear hQ K
         try simp only [Act.put,pA9,pZ9,pS9]
         refine wpAnyT_last 16 rfl (by kernel_rfl) (by decide) (fun K hQ=>?_)
         refine step_store_blk rfl 39 (.tmp 8) (.tmp 40) rfl b8 39 rZ rr rfl rfl (hO4.out.blk HP8.out (by have:=HNE.out;omega)) (by rw [HRZ.out];rfl) (by rw [HRZ.out];exact Tryz.szR) HRO.out ?_
         intro x5 hB5 hO5
         have BX5:=Lh (BX4.out.trans (hO5.out.below H8G.out))
         refine hQ.out _ _ ?_ (fun hH316=>?_)
         · exact BX5.out
         clear hQ K
         try simp only [Act.put,pA9,pZ9,pS9]
         refine tT 17 rfl ?_ ⟨hH316,fun h=>absurd h (by decide)⟩ ?_ ?_
         rotate_left
         · (intro wx hx;go_simp <;> with_reducible rfl)
         try simp only [Act.put,pA9,pZ9,pS9]
         refine wpAnyT_done (by kernel_rfl) ?_ _
         go_wp2_with fail
         go_meet
         case rel=>exact⟨b7,b8,m',rr,rfl,rfl,rfl,Lh (ApS.mk' ((HAI.out.store hO4.out (by simp) H7G.out).store hO5.out (by simp) H8G.out) (fun q hq=>by simp [hq]) (by simp) (by simp) ⟨A',c',HRR.out.symm⟩ HX'.out (by rw [HMC.out];exact hO5.out.blk hB4.out (by have:=HNE.out;omega)) hB5.out H7G.out H8G.out)⟩
       · rw [if_pos (by rfl)]
         go_simp
         obtain⟨x2,ew⟩:∃w6,x1.alloc (.cells rZ 39)=w6:=⟨_,rfl⟩
         have hb:Below x1.heap.size x1 (x1.alloc (.cells rZ 39)):=(Below.refl _ _).alloc (Nat.le_refl _) _
         have hg:=Blk.new x1 39 rZ
         rw [ew] at hb hg
         have ew':x1.alloc (.cells #[.int .i64 0,.int .u64 0,.slice none 0 0,.int .u64 0] 39)=x2:=ew
         rw [ew']
         obtain⟨b8,eb⟩:∃b,x1.heap.size=b:=⟨_,rfl⟩
         have H8G:=Lh (show wr.heap.size≤b8 from by rw [← eb];exact BX1.out.size)
         have HNE:=Lh (show b7<b8 from by rw [← eb];exact HP7.out.lt)
         have BX2:=Lh (BX1.out.trans (hb.mono BX1.out.size))
         have HP7:=Lh (HP7.out.below hb HP7.out.lt)
         rw [eb] at hg ⊢
         have HP8:=Lh hg
         clear hb hg ew ew' eb
         refine hQ.out _ _ ?_ (fun hH2=>?_)
         · exact⟨BX2.out,trivial⟩
         clear hQ K
         try simp only [Act.put,pA9,pZ9,pS9]
         refine wpAnyT_one 8 rfl (by kernel_rfl) (fun K hQ=>?_)
         rw [if_pos (by rfl)]
         go_simp
         (go_at_call 9;refine (HAP.out x2 BX2.out [b8,b7] (fun q hq=>by simp only [List.mem_cons,List.not_mem_nil,or_false] at hq;rcases hq with rfl | rfl <;> first | exact⟨H8G.out,HP8.out.lt⟩ | exact⟨H7G.out,HP7.out.lt⟩)).mono ?_;rintro e x3 ⟨m',A',c',rfl,hin,hx',hb,hoff⟩)
         have BX3:=Lh (BX2.out.trans (hb.mono BX2.out.size))
         have HP7:=Lh (HP7.out.below hb HP7.out.lt)
         have HP8:=Lh (HP8.out.below hb HP8.out.lt)
         have HAI:=Lh (show ApI wr ([b8,b7] ++ GG) m' x3 from ⟨BX3.out,hin,hoff⟩)
         have HX':=Lh hx'
         obtain⟨mcs,emcs⟩:∃mcs,m'.cs=mcs:=⟨_,rfl⟩
         have HMC:=Lh emcs
         have HMZ:=Lh (show mcs.size=14 from by rw [← emcs];rfl)
         have HMO:=Lh (show mcs.toList.all (·.oneCell')=true from by rw [← emcs];rfl)
         rw [emcs]
         obtain⟨rr,err⟩:∃rr,rcs (applyM plF m.x (k+1) cm.x).2 A' c'=rr:=⟨_,rfl⟩
         have HRR:=Lh err
         have HRZ:=Lh (show rr.size=4 from by rw [← err];rfl)
         have HRO:=Lh (show rr.toList.all (·.oneCell')=true from by rw [← err];rfl)
         rw [err]
         clear hb hin hoff hx' emcs err
         refine hQ.out _ _ ?_ (fun hH3=>?_)
         · exact⟨BX3.out,trivial⟩
         clear hQ K
         try simp only [Act.put,pA9,pZ9,pS9]
         refine tS 9 rfl ?_ hH3 ?_ ?_
         rotate_left
         · (intro wx hx;go_simp <;> with_reducible rfl)
         try simp only [Act.put,pA9,pZ9,pS9]
         refine tS 10 rfl ?_ hH3 ?_ ?_
         rotate_left
         · (intro wx hx;go_simp <;> with_reducible rfl)
         try simp only [Act.put,pA9,pZ9,pS9]
         refine tS 11 rfl ?_ hH3 ?_ ?_
         rotate_left
         · (intro wx hx;go_simp <;> with_reducible rfl)
         try simp only [Act.put,pA9,pZ9,pS9]
         refine tS 12 rfl ?_ hH3 ?_ ?_
         rotate_left
         · (intro wx hx;go_simp <;> with_reducible rfl)
         try simp only [Act.put,pA9,pZ9,pS9]
         refine wpAnyT_one 15 rfl (by kernel_rfl) (fun K hQ=>?_)
         refine step_store_blk rfl 34 (.tmp 7) (.tmp 39) rfl b7 34 mZ mcs rfl rfl HP7.out (by rw [HMZ.out];rfl) (by rw [HMZ.out];exact Tryz.szSt) HMO.out ?_
         intro x4 hB4 hO4
         have BX4:=Lh (BX3.out.trans (hO4.out.below H7G.out))
         refine hQ.out _ _ ?_ (fun hH315=>?_)
         · exact⟨BX4.out,trivial⟩
         clear hQ K
         try simp only [Act.put,pA9,pZ9,pS9]
         refine wpAnyT_last 16 rfl (by kernel_rfl) (by decide) (fun K hQ=>?_)
         refine step_store_blk rfl 39 (.tmp 8) (.tmp 40) rfl b8 39 rZ rr rfl rfl (hO4.out.blk HP8.out (by have:=HNE.out;omega)) (by rw [HRZ.out];rfl) (by rw [HRZ.out];exact Tryz.szR) HRO.out ?_
         intro x5 hB5 hO5
         have BX5:=Lh (BX4.out.trans (hO5.out.below H8G.out))
         refine hQ.out _ _ ?_ (fun hH316=>?_)
         · exact BX5.out
         clear hQ K
         try simp only [Act.put,pA9,pZ9,pS9]
         refine tT 17 rfl ?_ ⟨hH316,fun h=>absurd h (by decide)⟩ ?_ ?_
         rotate_left
         · (intro wx hx;go_simp <;> with_reducible rfl)
         try simp only [Act.put,pA9,pZ9,pS9]
         refine wpAnyT_done (by kernel_rfl) ?_ _
         go_wp2_with fail
         go_meet
         case rel=>exact⟨b7,b8,m',rr,rfl,rfl,rfl,Lh (ApS.mk' ((HAI.out.store hO4.out (by simp) H7G.out).store hO5.out (by simp) H8G.out) (fun q hq=>by simp [hq]) (by simp) (by simp) ⟨A',c',HRR.out.symm⟩ HX'.out (by rw [HMC.out];exact hO5.out.blk hB4.out (by have:=HNE.out;omega)) hB5.out H7G.out H8G.out)⟩
     · rw [if_pos (by rfl)]
       go_simp
       obtain⟨x1,ew⟩:∃w6,x0.alloc (.cells rZ 39)=w6:=⟨_,rfl⟩
       have hb:Below x0.heap.size x0 (x0.alloc (.cells rZ 39)):=(Below.refl _ _).alloc (Nat.le_refl _) _
       have hg:=Blk.new x0 39 rZ
       rw [ew] at hb hg
       have ew':x0.alloc (.cells #[.int .i64 0,.int .u64 0,.slice none 0 0,.int .u64 0] 39)=x1:=ew
       rw [ew']
       obtain⟨b8,eb⟩:∃b,x0.heap.size=b:=⟨_,rfl⟩
       have H8G:=Lh (show wr.heap.size≤b8 from by rw [← eb];exact BX0.out.size)
       have BX1:=Lh (BX0.out.trans (hb.mono BX0.out.size))
       rw [eb] at hg ⊢
       have HP8:=Lh hg
       clear hb hg ew ew' eb
       refine hQ.out _ _ ?_ (fun hH1=>?_)
       · exact⟨BX1.out,trivial⟩
       clear hQ K
       try simp only [Act.put,pA9,pZ9,pS9]
       refine wpAnyT_two 8 13 rfl rfl (by kernel_rfl) (fun K hQ=>?_) (fun K hQ=>?_)
       · rw [if_pos (by rfl)]
         go_simp
         (go_at_call 9;refine (HAP.out x1 BX1.out [b8] (fun q hq=>by simp only [List.mem_cons,List.not_mem_nil,or_false] at hq;rcases hq with rfl <;> exact⟨H8G.out,HP8.out.lt⟩)).mono ?_;rintro e x2 ⟨m',A',c',rfl,hin,hx',hb,hoff⟩)
         have BX2:=Lh (BX1.out.trans (hb.mono BX1.out.size))
         have HP8:=Lh (HP8.out.below hb HP8.out.lt)
         have HAI:=Lh (show ApI wr ([b8] ++ GG) m' x2 from ⟨BX2.out,hin,hoff⟩)
         have HX':=Lh hx'
         obtain⟨mcs,emcs⟩:∃mcs,m'.cs=mcs:=⟨_,rfl⟩
         have HMC:=Lh emcs
         have HMZ:=Lh (show mcs.size=14 from by rw [← emcs];rfl)
         have HMO:=Lh (show mcs.toList.all (·.oneCell')=true from by rw [← emcs];rfl)
         rw [emcs]
         obtain⟨rr,err⟩:∃rr,rcs (applyM plF m.x (k+1) cm.x).2 A' c'=rr:=⟨_,rfl⟩
         have HRR:=Lh err
         have HRZ:=Lh (show rr.size=4 from by rw [← err];rfl)
         have HRO:=Lh (show rr.toList.all (·.oneCell')=true from by rw [← err];rfl)
         rw [err]
         clear hb hin hoff hx' emcs err
         refine hQ.out _ _ ?_ (fun hH2=>?_)
         · exact⟨BX2.out,trivial⟩
         clear hQ K
         try simp only [Act.put,pA9,pZ9,pS9]
         refine tS 9 rfl ?_ hH2 ?_ ?_
         rotate_left
         · (intro wx hx;go_simp <;> with_reducible rfl)
         try simp only [Act.put,pA9,pZ9,pS9]
         refine tS 10 rfl ?_ hH2 ?_ ?_
         rotate_left
         · (intro wx hx;go_simp <;> with_reducible rfl)
         try simp only [Act.put,pA9,pZ9,pS9]
         refine tS 11 rfl ?_ hH2 ?_ ?_
         rotate_left
         · (intro wx hx;go_simp <;> with_reducible rfl)
         try simp only [Act.put,pA9,pZ9,pS9]
         refine tS 12 rfl ?_ hH2 ?_ ?_
         rotate_left
         · (intro wx hx;go_simp <;> with_reducible rfl)
         try simp only [Act.put,pA9,pZ9,pS9]
         refine wpAnyT_one 13 rfl (by kernel_rfl) (fun K hQ=>?_)
         rw [if_pos (by rfl)]
         go_simp
         obtain⟨x3,ew⟩:∃w6,x2.alloc (.cells mZ 34)=w6:=⟨_,rfl⟩
         have hb:Below x2.heap.size x2 (x2.alloc (.cells mZ 34)):=(Below.refl _ _).alloc (Nat.le_refl _) _
         have hg:=Blk.new x2 34 mZ
         rw [ew] at hb hg
         have ew':x2.alloc (.cells #[.int .i64 0,.int .i64 0,.int .i64 0,.int .u64 0,.slice none 0 0,.int .u64 0,.slice none 0 0,.slice none 0 0,.slice none 0 0,.slice none 0 0,.slice none 0 0,.slice none 0 0,.slice none 0 0,.int .u64 0] 34)=x3:=ew
         rw [ew']
         obtain⟨b7,eb⟩:∃b,x2.heap.size=b:=⟨_,rfl⟩
         have H7G:=Lh (show wr.heap.size≤b7 from by rw [← eb];exact BX2.out.size)
         have HNE:=Lh (show b8<b7 from by rw [← eb];exact HP8.out.lt)
         have HAI:=Lh (HAI.out.alloc hb (Nat.le_of_eq eb))
         have BX3:=Lh (BX2.out.trans (hb.mono BX2.out.size))
         have HP8:=Lh (HP8.out.below hb HP8.out.lt)
         rw [eb] at hg ⊢
         have HP7:=Lh hg
         clear hb hg ew ew' eb
         refine hQ.out _ _ ?_ (fun hH3=>?_)
         · exact⟨BX3.out,trivial⟩
         clear hQ K
         try simp only [Act.put,pA9,pZ9,pS9]
         refine wpAnyT_one 15 rfl (by kernel_rfl) (fun K hQ=>?_)
         refine step_store_blk rfl 34 (.tmp 7) (.tmp 39) rfl b7 34 mZ mcs rfl rfl HP7.out (by rw [HMZ.out];rfl) (by rw [HMZ.out];exact Tryz.szSt) HMO.out ?_
         intro x4 hB4 hO4
         have BX4:=Lh (BX3.out.trans (hO4.out.below H7G.out))
         refine hQ.out _ _ ?_ (fun hH315=>?_)
         · exact⟨BX4.out,trivial⟩
         clear hQ K
         try simp only [Act.put,pA9,pZ9,pS9]
         refine wpAnyT_last 16 rfl (by kernel_rfl) (by decide) (fun K hQ=>?_)
         refine step_store_blk rfl 39 (.tmp 8) (.tmp 40) rfl b8 39 rZ rr rfl rfl (hO4.out.blk HP8.out (by have:=HNE.out;omega)) (by rw [HRZ.out];rfl) (by rw [HRZ.out];exact Tryz.szR) HRO.out ?_
         intro x5 hB5 hO5
         have BX5:=Lh (BX4.out.trans (hO5.out.below H8G.out))
         refine hQ.out _ _ ?_ (fun hH316=>?_)
         · exact BX5.out
         clear hQ K
         try simp only [Act.put,pA9,pZ9,pS9]
         refine tT 17 rfl ?_ ⟨hH316,fun h=>absurd h (by decide)⟩ ?_ ?_
         rotate_left
         · (intro wx hx;go_simp <;> with_reducible rfl)
         try simp only [Act.put,pA9,pZ9,pS9]
         refine wpAnyT_done (by kernel_rfl) ?_ _
         go_wp2_with fail
         go_meet
         case rel=>exact⟨b7,b8,m',rr,rfl,rfl,rfl,Lh (ApS.mk' ((HAI.out.store hO4.out (by simp) H7G.out).store hO5.out (by simp) H8G.out) (fun q hq=>by simp [hq]) (by simp) (by simp) ⟨A',c',HRR.out.symm⟩ HX'.out (by rw [HMC.out];exact hO5.out.blk hB4.out (by have:=HNE.out;omega)) hB5.out H7G.out H8G.out)⟩
       · rw [if_pos (by rfl)]
         go_simp
         obtain⟨x2,ew⟩:∃w6,x1.alloc (.cells mZ 34)=w6:=⟨_,rfl⟩
         have hb:Below x1.heap.size x1 (x1.alloc (.cells mZ 34)):=(Below.refl _ _).alloc (Nat.le_refl _) _
         have hg:=Blk.new x1 34 mZ
         rw [ew] at hb hg
         have ew':x1.alloc (.cells #[.int .i64 0,.int .i64 0,.int .i64 0,.int .u64 0,.slice none 0 0,.int .u64 0,.slice none 0 0,.slice none 0 0,.slice none 0 0,.slice none 0 0,.slice none 0 0,.slice none 0 0,.slice none 0 0,.int .u64 0] 34)=x2:=ew
         rw [ew']
         obtain⟨b7,eb⟩:∃b,x1.heap.size=b:=⟨_,rfl⟩
         have H7G:=Lh (show wr.heap.size≤b7 from by rw [← eb];exact BX1.out.size)
         have HNE:=Lh (show b8<b7 from by rw [← eb];exact HP8.out.lt)
         have BX2:=Lh (BX1.out.trans (hb.mono BX1.out.size))
         have HP8:=Lh (HP8.out.below hb HP8.out.lt)
         rw [eb] at hg ⊢
         have HP7:=Lh hg
         clear hb hg ew ew' eb
         refine hQ.out _ _ ?_ (fun hH2=>?_)
         · exact⟨BX2.out,trivial⟩
         clear hQ K
         try simp only [Act.put,pA9,pZ9,pS9]
         refine wpAnyT_one 8 rfl (by kernel_rfl) (fun K hQ=>?_)
         rw [if_pos (by rfl)]
         go_simp
         (go_at_call 9;refine (HAP.out x2 BX2.out [b7,b8] (fun q hq=>by simp only [List.mem_cons,List.not_mem_nil,or_false] at hq;rcases hq with rfl | rfl <;> first | exact⟨H7G.out,HP7.out.lt⟩ | exact⟨H8G.out,HP8.out.lt⟩)).mono ?_;rintro e x3 ⟨m',A',c',rfl,hin,hx',hb,hoff⟩)
         have BX3:=Lh (BX2.out.trans (hb.mono BX2.out.size))
         have HP8:=Lh (HP8.out.below hb HP8.out.lt)
         have HP7:=Lh (HP7.out.below hb HP7.out.lt)
         have HAI:=Lh (show ApI wr ([b7,b8] ++ GG) m' x3 from ⟨BX3.out,hin,hoff⟩)
         have HX':=Lh hx'
         obtain⟨mcs,emcs⟩:∃mcs,m'.cs=mcs:=⟨_,rfl⟩
         have HMC:=Lh emcs
         have HMZ:=Lh (show mcs.size=14 from by rw [← emcs];rfl)
         have HMO:=Lh (show mcs.toList.all (·.oneCell')=true from by rw [← emcs];rfl)
         rw [emcs]
         obtain⟨rr,err⟩:∃rr,rcs (applyM plF m.x (k+1) cm.x).2 A' c'=rr:=⟨_,rfl⟩
         have HRR:=Lh err
         have HRZ:=Lh (show rr.size=4 from by rw [← err];rfl)
         have HRO:=Lh (show rr.toList.all (·.oneCell')=true from by rw [← err];rfl)
         rw [err]
         clear hb hin hoff hx' emcs err
         refine hQ.out _ _ ?_ (fun hH3=>?_)
         · exact⟨BX3.out,trivial⟩
         clear hQ K
         try simp only [Act.put,pA9,pZ9,pS9]
         refine tS 9 rfl ?_ hH3 ?_ ?_
         rotate_left
         · (intro wx hx;go_simp <;> with_reducible rfl)
         try simp only [Act.put,pA9,pZ9,pS9]
         refine tS 10 rfl ?_ hH3 ?_ ?_
         rotate_left
         · (intro wx hx;go_simp <;> with_reducible rfl)
         try simp only [Act.put,pA9,pZ9,pS9]
         refine tS 11 rfl ?_ hH3 ?_ ?_
         rotate_left
         · (intro wx hx;go_simp <;> with_reducible rfl)
         try simp only [Act.put,pA9,pZ9,pS9]
         refine tS 12 rfl ?_ hH3 ?_ ?_
         rotate_left
         · (intro wx hx;go_simp <;> with_reducible rfl)
         try simp only [Act.put,pA9,pZ9,pS9]
         refine wpAnyT_one 15 rfl (by kernel_rfl) (fun K hQ=>?_)
         refine step_store_blk rfl 34 (.tmp 7) (.tmp 39) rfl b7 34 mZ mcs rfl rfl HP7.out (by rw [HMZ.out];rfl) (by rw [HMZ.out];exact Tryz.szSt) HMO.out ?_
         intro x4 hB4 hO4
         have BX4:=Lh (BX3.out.trans (hO4.out.below H7G.out))
         refine hQ.out _ _ ?_ (fun hH315=>?_)
         · exact⟨BX4.out,trivial⟩
         clear hQ K
         try simp only [Act.put,pA9,pZ9,pS9]
         refine wpAnyT_last 16 rfl (by kernel_rfl) (by decide) (fun K hQ=>?_)
         refine step_store_blk rfl 39 (.tmp 8) (.tmp 40) rfl b8 39 rZ rr rfl rfl (hO4.out.blk HP8.out (by have:=HNE.out;omega)) (by rw [HRZ.out];rfl) (by rw [HRZ.out];exact Tryz.szR) HRO.out ?_
         intro x5 hB5 hO5
         have BX5:=Lh (BX4.out.trans (hO5.out.below H8G.out))
         refine hQ.out _ _ ?_ (fun hH316=>?_)
         · exact BX5.out
         clear hQ K
         try simp only [Act.put,pA9,pZ9,pS9]
         refine tT 17 rfl ?_ ⟨hH316,fun h=>absurd h (by decide)⟩ ?_ ?_
         rotate_left
         · (intro wx hx;go_simp <;> with_reducible rfl)
         try simp only [Act.put,pA9,pZ9,pS9]
         refine wpAnyT_done (by kernel_rfl) ?_ _
         go_wp2_with fail
         go_meet
         case rel=>exact⟨b7,b8,m',rr,rfl,rfl,rfl,Lh (ApS.mk' ((HAI.out.store hO4.out (by simp) H7G.out).store hO5.out (by simp) H8G.out) (fun q hq=>by simp [hq]) (by simp) (by simp) ⟨A',c',HRR.out.symm⟩ HX'.out (by rw [HMC.out];exact hO5.out.blk hB4.out (by have:=HNE.out;omega)) hB5.out H7G.out H8G.out)⟩
    case rest =>
     obtain⟨b7,b8,m',rr,rfl,rfl,rfl,HS⟩:=hcut
     have HCK:=Lh (check_ok m' wc (Lh HS.out.in_.inn) (Lh (mst_of (by rw [HS.out.eq];exact (RW.out.run.apply (by omega) cm.x).may))) (by rw [HS.out.eq];have:=(RW.out.run.apply (by omega) cm.x).last;omega))
     obtain⟨mcs,emcs⟩:∃mcs,m'.cs=mcs:=⟨_,rfl⟩
     have HMC:=Lh emcs
     have HMZ:=Lh (show mcs.size=14 from by rw [← emcs];rfl)
     have HMO:=Lh (show mcs.toList.all (·.oneCell')=true from by rw [← emcs];rfl)
     have HT7:=Lh (show Blk wc b7 34 mcs from by rw [← emcs];exact HS.out.t7)
     rw [emcs] at HCK
     clear emcs
     go_wp2_with (first
      | (refine wplW (by rfl) (wp_load_blkW 34 (.tmp 7) rfl b7 34 mcs _ rfl (by first | exact HT7.out | exact HT7c.out) Tryz.underlying34 rfl (by rw [HMZ.out];exact Tryz.szSt) ?_))
      | (go_at_call 16;refine HCK.out.mono ?_;rintro e wd ⟨rfl,hb⟩;have HSd:=Lh (HS.out.later hb);have HT7c:=Lh (HT7.out.below hb HT7.out.lt);have HBSd:=Lh ((HBS.out.below HS.out.in_.bel HBS.out.lt).below hb (Nat.lt_of_lt_of_le HBS.out.lt HS.out.in_.bel.size));have HZd:=Lh (HZk.out.below HSd.out.in_.bel HZk.out.lt);clear hb)
      | (refine wpl_store_blk rfl 34 (.tmp 4) (.tmp 50) rfl b4 34 cs mcs rfl rfl HBSd.out (by rw [HCS.out,HMZ.out]) (by rw [HMZ.out];exact Tryz.szSt) HMO.out ?_;intro we hBe hOe))
     have HN:=Lh (RW.out.next (by omega) HSd.out (by rw [HMC.out];exact hBe.out) hOe.out)
     have HWN:=Lh (show Wid m'.x from by rw [HSd.out.eq];exact RW.out.run.wid HK0.out (by omega) HCB.out.1 HCB.out.2)
     clear hw1 hw2
     exact⟨⟨k+1,m',by omega,by rw [HQ.out],HN,Lh (hOe.out.blk HZd.out (by have:=H24.out;omega)),HWN⟩,by have:=HQ.out;simp [intOf];omega⟩
  · obtain rfl:n=k:=by omega
    obtain⟨mcs,emcs⟩:∃mcs,m.cs=mcs:=⟨_,rfl⟩
    have HMC:=Lh emcs
    have HMZ:=Lh (show mcs.size=14 from by rw [← emcs];rfl)
    have HMO:=Lh (show mcs.toList.all (·.oneCell')=true from by rw [← emcs];rfl)
    have HBS:=Lh (show Blk wr b4 34 mcs from by rw [← emcs];exact RW.out.blk)
    clear emcs
    go_wp2_with (first
     | (refine wpl_load_blk rfl 34 (.tmp 4) rfl b4 34 mcs _ rfl HBS.out Tryz.underlying34 rfl (by rw [HMZ.out];exact Tryz.szSt) ?_)
     | (refine wpl_store_blk rfl 34 (.tmp 2) (.tmp 51) rfl b2 34 mZ mcs rfl rfl HZk.out (by rw [HMZ.out];rfl) (by rw [HMZ.out];exact Tryz.szSt) HMO.out ?_;intro we hBe hOe))
    have hb2:b2 ∈ GG:=by rw [← EGG.out];simp
    refine bodyPost_ret (res_ct Tryz.results8 rfl rfl (load_blk hBe.out Tryz.underlying34 rfl (by rw [HMZ.out];exact Tryz.szSt))) rfl ⟨m,by rw [HMC.out];rfl,?_,RW.out.run,HK0.out,RW.out.bel.trans (hOe.out.below (RW.out.lt b2 hb2).1)⟩
    exact min_store RW.out.inn hOe.out (RW.out.off b2 hb2)
end
end Go.Proofs.YtdoneomahlfkbaaGreat
