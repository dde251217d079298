/-
  MetaOnce is true: a client's command that was answered changes nothing when it comes again. For every input.
  (printed by gen_meonce.py)
-/
import Derived.Test.YtdoneomahlfkbaaGreatOnc25
import Derived.Test.YtdoneomahlfkbaaGreatOnc26
import Derived.Test.YtdoneomahlfkbaaGreatOnc33
set_option linter.unusedVariables false
set_option linter.unusedSimpArgs false
set_option maxRecDepth 100000
set_option maxHeartbeats 16000000
namespace Go.Proofs.YtdoneomahlfkbaaGreat
open Go.RowKit OctMath StrMath PlMath
theorem run_static {w w3 w4 x1 x2 x3:World} {G:List Nat} {b7 b10 k:Nat} {m m':MM} {c:CmdT} (h:RunW w G b7 m k w3) (hk:k≤50000) (hb:Below w3.heap.size w3 w4) (hin:MIn m' w4) (hoff:∀q ∈ G,m'.All (·.Off q)) (hx:m'.x=(applyM plF m.x (k+1) c).1)
 (hba:Below w4.heap.size w4 x1) (h10:w4.heap.size=b10) (hl:b10<x1.heap.size) (hO5:Only b7 x1 x2) (hB5:Blk x2 b7 34 m'.cs) (hO6:Only b10 x2 x3):RunW w (b10 :: G) b7 m' (k+1) x3:=by
 have h7:=h.lt b7 h.mem
 have hw10:w.heap.size≤b10:=by have:=h.bel.size;have:=hb.size;omega
 have a0:ApI w G m' w4:=⟨h.bel.trans (hb.mono h.bel.size),hin,hoff⟩
 have a1:=a0.alloc hba (Nat.le_of_eq h10)
 have a2:=a1.store hO5 (List.mem_cons_of_mem _ h.mem) h7.1
 have a3:=a2.store hO6 List.mem_cons_self hw10
 have hne:b7≠b10:=by have:=hb.size;omega
 have s3:x3.heap.size=x1.heap.size:=by rw [hO6.size,hO5.size]
 exact⟨a3.bel,hO6.blk hB5 hne,a3.inn,a3.off,fun q hq=>by
  rcases List.mem_cons.1 hq with rfl | hq
  · exact⟨hw10,by rw [s3];exact hl⟩
  · have:=h.lt q hq
    have:=hb.size
    have:=hba.size
    exact⟨this |> fun _=>(h.lt q hq).1,by rw [s3];omega⟩,List.mem_cons_of_mem _ h.mem,by rw [hx];exact h.run.apply (by omega) c⟩
theorem ap_static {w6 w7 w8 w9:World} {G:List Nat} {m2:MM} {p:MetT×ResT} {rr2:Array Value} {A:Option Addr} {c:Nat} (hb:Below w6.heap.size w6 w7) (hin:MIn m2 w7) (hoff:∀q ∈ G,m2.All (·.Off q)) (hx:m2.x=p.1) (hrr:rcs p.2 A c=rr2)
 (hO8:Only w7.heap.size ((w7.alloc (.cells mZ 34)).alloc (.cells rZ 39)) w8) (hB8:Blk w8 w7.heap.size 34 m2.cs) (hO9:Only (w7.heap.size+1) w8 w9) (hB9:Blk w9 (w7.heap.size+1) 39 rr2):ApS w6 G p m2 w7.heap.size (w7.heap.size+1) rr2 w9:=by
 have es:(w7.alloc (.cells mZ 34)).heap.size=w7.heap.size+1:=by simp
 have a0:ApI w6 G m2 w7:=⟨hb,hin,hoff⟩
 have a1:=a0.alloc ((Below.refl w7.heap.size w7).alloc (Nat.le_refl _) (.cells mZ 34)) (Nat.le_refl _)
 have a2:=a1.alloc ((Below.refl (w7.alloc (.cells mZ 34)).heap.size (w7.alloc (.cells mZ 34))).alloc (Nat.le_refl _) (.cells rZ 39)) (Nat.le_of_eq es)
 have a3:=a2.store hO8 (by simp) hb.size
 have a4:=a3.store hO9 (by simp) (by have:=hb.size;omega)
 exact ApS.mk' a4 (fun q hq=>by simp [hq]) (by simp) (by simp) ⟨A,c,hrr.symm⟩ hx (hO9.blk hB8 (by omega)) hB9 hb.size (by have:=hb.size;omega)
theorem RunW.store {w x x':World} {G:List Nat} {b b' k:Nat} {m:MM} (h:RunW w G b m k x) (ho:Only b' x x') (hm:b' ∈ G) (hne:b≠b'):RunW w G b m k x' :=
 ⟨h.bel.trans (ho.below (h.lt b' hm).1),ho.blk h.blk hne,min_store h.inn ho (h.off b' hm),h.off,fun q hq=>⟨(h.lt q hq).1,by rw [ho.size];exact (h.lt q hq).2⟩,h.mem,h.run⟩
theorem once_any (A:Option Addr) (n cap:Nat) (cms:List CM) (c0:CM) (A2:Option Addr) (n2 cap2:Nat) (cms2:List CM) (w:World) (HRD:Hid (Reads w w.heap.size 16 A n (cms.flatMap cmL))) (HLN:Hid (cms.length=n)) (HCW:Hid (∀m ∈ cms,CmW w m)) (HC0:Hid (CmW w c0))
 (HRD2:Hid (Reads w w.heap.size 16 A2 n2 (cms2.flatMap cmL))) (HLN2:Hid (cms2.length=n2)) (HCW2:Hid (∀m ∈ cms2,CmW w m)) (hN:n≤maxLen) (hN2:n2≤maxLen) :
 Calls Tryz.prog 5 #[.slice A n cap,.agg (cmdCs c0.x c0.A c0.c),.slice A2 n2 cap2] w fun e w'=>e = .returned (.bool true)∧Below w.heap.size w w':=by
 have HHD:=Lh (fun W=>heads_any W)
 obtain⟨ks,eks⟩:∃ks,cmdCs c0.x c0.A c0.c=ks:=⟨_,rfl⟩
 have EKS:=Lh eks
 have HKS:=Lh (show ks.size=16 from by rw [← eks];rfl)
 obtain⟨kd,ekd⟩:∃x,c0.x.kind=x:=⟨_,rfl⟩
 have K0:=Lh (show ks[0]?=some (.int .i64 kd) from by rw [← eks,← ekd];rfl)
 have K1:=Lh (show ks[1]?=some (.int .u64 (c0.x.client:Int)) from by rw [← eks];rfl)
 have EKD:=Lh ekd
 rw [eks]
 clear eks ekd
 obtain⟨w1,ew1⟩:∃w1,w.alloc (.cells ks 48)=w1:=⟨_,rfl⟩
 have hb0:Below w.heap.size w (w.alloc (.cells ks 48)):=(Below.refl _ _).alloc (Nat.le_refl _) _
 have hx0:Blk (w.alloc (.cells ks 48)) w.heap.size 48 ks:=Blk.new w _ _
 rw [ew1] at hb0 hx0
 have HB0:=Lh hb0
 have HX0:=Lh hx0
 clear hb0 hx0
 go_enter Tryz.func5,Tryz.ntmps5
 go_upto_region 1 with (fail)
 obtain⟨b4,e4⟩:∃b4,w.heap.size=b4:=⟨_,rfl⟩
 have E4:=Lh e4
 rw [e4] at HX0 ⊢
 clear e4 ew1
 have x0:=(HX0.out.cell 0).trans K0.out
 obtain⟨big,ebig⟩:∃b,(decide (100<n) || (decide (50<n2) || (!(kd == 1) && !(kd == 4))))=b:=⟨_,rfl⟩
 have EBG:=Lh ebig
 clear ebig
 go_cut [39] from 22 to 38 (fun s39 wx=>s39 = .bool big∧Hid (w1=wx))
 case first =>
  by_cases h1:n>100
  · have d1:decide ((n:Int)>100)=true:=decide_eq_true (by omega)
    have d2:decide (100<(n:Int))=true:=decide_eq_true (by omega)
    have d3:decide (100<n)=true:=decide_eq_true (by omega)
    clear x0
    go_wp2_with fail
    go_meet
    case rel=>exact⟨by rw [← EBG.out,d3];rfl,Lh rfl⟩
  have d1:decide ((n:Int)>100)=false:=decide_eq_false (by omega)
  have d2:decide (100<(n:Int))=false:=decide_eq_false (by omega)
  have d3:decide (100<n)=false:=decide_eq_false (by omega)
  by_cases h2:n2>50
  · have f1:decide ((n2:Int)>50)=true:=decide_eq_true (by omega)
    have f2:decide (50<(n2:Int))=true:=decide_eq_true (by omega)
    have f3:decide (50<n2)=true:=decide_eq_true (by omega)
    clear x0
    go_wp2_with fail
    go_meet
    case rel=>exact⟨by rw [← EBG.out,d3,f3];rfl,Lh rfl⟩
  have f1:decide ((n2:Int)>50)=false:=decide_eq_false (by omega)
  have f2:decide (50<(n2:Int))=false:=decide_eq_false (by omega)
  have f3:decide (50<n2)=false:=decide_eq_false (by omega)
  cases e1:kd == 1 with
  | true =>
    have e2:(kd != 1)=false:=by unfold bne;rw [e1];rfl
    go_wp2_with fail
    go_meet
    case rel=>exact⟨by rw [← EBG.out,d3,f3,e1];rfl,Lh rfl⟩
  | false =>
    have e2:(kd != 1)=true:=by unfold bne;rw [e1];rfl
    cases e3:kd == 4 with
    | true =>
      have e4:(kd != 4)=false:=by unfold bne;rw [e3];rfl
      go_wp2_with fail
      go_meet
      case rel=>exact⟨by rw [← EBG.out,d3,f3,e1,e3];rfl,Lh rfl⟩
    | false =>
      have e4:(kd != 4)=true:=by unfold bne;rw [e3];rfl
      go_wp2_with fail
      go_meet
      case rel=>exact⟨by rw [← EBG.out,d3,f3,e1,e3];rfl,Lh rfl⟩
 case rest =>
  obtain⟨rfl,hw⟩:=hcut
  have hw:=hw.out
  subst hw
  clear x0
  cases big with
  | true =>
    go_wp2_with (go_at_call 7;refine (HHD.out w1).mono ?_;rintro e w9 ⟨rfl,hb9⟩;have HB9:=Lh hb9;clear hb9)
    go_ret
    exact⟨rfl,HB0.out.trans (HB9.out.mono HB0.out.size)⟩
  | false =>
    have hb:=EBG.out
    simp only [Bool.or_eq_false_iff,decide_eq_false_iff_not] at hb
    obtain⟨hn,hn2,hk⟩:=hb
    have hn:n≤100:=by omega
    have hn2:n2≤50:=by omega
    have HK:=Lh (show kd=1∨kd=4 from by
     by_cases h1:kd=1
     · exact .inl h1
     · by_cases h4:kd=4
       · exact .inr h4
       · rw [beq_eq_false_iff_ne.2 h1,beq_eq_false_iff_ne.2 h4] at hk;cases hk)
    clear hk
    have HRUN:=Lh (run_wid A n cap cms w1 (Lh (HRD.out.later HB0.out)) HLN (Lh fun m hm=>(HCW.out m hm).later HB0.out) (by omega))
    go_wp2_with (fail)
    refine HRUN.out.mono ?_
    rintro e w2 ⟨m0,rfl,hin,hrun,hwid,hb⟩
    have HWI:=Lh hwid
    have HB2:=Lh (HB0.out.trans (hb.mono HB0.out.size))
    have HX2:=Lh (HX0.out.below hb HX0.out.lt)
    have HIN:=Lh hin
    have HR:=Lh hrun
    clear hb hin hrun HRUN hwid
    obtain⟨cs,ecs⟩:∃cs,m0.cs=cs:=⟨_,rfl⟩
    have ECS:=Lh ecs
    have HCS:=Lh (show cs.size=14 from by rw [← ecs];rfl)
    have HCO:=Lh (show cs.toList.all (·.oneCell')=true from by rw [← ecs];rfl)
    rw [ecs]
    clear ecs
    obtain⟨q,hq⟩:∃q,n+1=q:=⟨_,rfl⟩
    have HQ:=Lh hq
    have hw1:IntKind.u64.wrap (n:Int)=(n:Int):=by rw [IntKind.wrap_u64];omega
    have hw2:IntKind.u64.wrap ((n:Int)+1)=(q:Int):=by rw [IntKind.wrap_u64];omega
    clear hq
    go_upto_region 7 with (refine wpl_store_blk rfl 34 (.tmp 7) (.tmp 44) rfl w2.heap.size 34 mZ cs rfl rfl (Blk.new w2 _ _) (by rw [HCS.out];rfl) (by rw [HCS.out];exact Tryz.szSt) HCO.out ?_;intro w3 hB3 hO3)
    have hb3:Below w2.heap.size w2 w3:=((Below.refl _ _).alloc (Nat.le_refl _) _).trans (hO3.out.below (Nat.le_refl _))
    have RW0:=Lh (show RunW w [w2.heap.size] w2.heap.size m0 n w3 from ⟨HB2.out.trans (hb3.mono HB2.out.size),by rw [ECS.out];exact hB3.out,HIN.out.later hb3,fun q hq=>by
     rw [List.mem_singleton.1 hq]
     exact HIN.out.rows.imp fun r hr=>hr.off (Nat.le_refl _),fun q hq=>by
     rw [List.mem_singleton.1 hq]
     exact⟨HB2.out.size,hB3.out.lt⟩,by simp,HR.out⟩)
    have HT7:=hB3
    have HX3:=Lh (HX2.out.below hb3 HX2.out.lt)
    have hb4:b4<w2.heap.size:=HX2.out.lt
    obtain⟨bs,e7⟩:∃bs,w2.heap.size=bs:=⟨_,rfl⟩
    rw [e7] at RW0 HT7 hb4 ⊢
    have H47:=Lh hb4
    obtain⟨GG,eGG⟩:∃GG,[bs]=GG:=⟨_,rfl⟩
    rw [eGG] at RW0
    have HAP:=Lh (show ∀W,Below w3.heap.size w3 W→∀G1:List Nat,(∀q ∈ G1,w3.heap.size≤q∧q<W.heap.size)→Calls Tryz.prog 9 #[.agg cs,.int .u64 (q:Int),.agg ks] W (RetApp (applyM plF m0.x (n+1) c0.x) (G1 ++ GG) W) from by
     have h:=ap_calls RW0.out.inn RW0.out.run (by omega) RW0.out.off RW0.out.lt RW0.out.bel c0 HC0.out
     rw [← HQ.out,← ECS.out,← EKS.out]
     exact h)
    clear eGG e7 hB3 hO3 hb3 hb4 HIN HR hw1 hw2
    go_upto_region 8 with (first
     | (refine wpl_load_blk rfl 34 (.tmp 7) rfl bs 34 cs _ rfl HT7.out Tryz.underlying34 rfl (by rw [HCS.out];exact Tryz.szSt) ?_)
     | (refine wpl_load_blk rfl 48 (.tmp 4) rfl b4 48 ks _ rfl HX3.out Tryz.underlying48 rfl (by rw [HKS.out];exact Tryz.szCm) ?_)
     | (go_at_call 9;refine (HAP.out w3 (Below.refl _ _) [] (fun q hq=>by cases hq)).mono ?_;rintro e w4 ⟨m1,A1,c1,rfl,hin,hx',hb,hoff⟩
        have HB4:=Lh hb
        have HIN:=Lh hin
        have HOF:=Lh (show ∀q ∈ GG,m1.All (·.Off q) from hoff)
        have HX':=Lh hx'
        obtain⟨mcs,emcs⟩:∃mcs,m1.cs=mcs:=⟨_,rfl⟩
        have HMC:=Lh emcs
        have HMZ:=Lh (show mcs.size=14 from by rw [← emcs];rfl)
        have HMO:=Lh (show mcs.toList.all (·.oneCell')=true from by rw [← emcs];rfl)
        rw [emcs]
        obtain⟨rr,err⟩:∃rr,rcs (applyM plF m0.x (n+1) c0.x).2 A1 c1=rr:=⟨_,rfl⟩
        have HRR:=Lh err
        have HRZ:=Lh (show rr.size=4 from by rw [← err];rfl)
        have HRO:=Lh (show rr.toList.all (·.oneCell')=true from by rw [← err];rfl)
        rw [err]
        have HT7a:=Lh ((HT7.out.below hb HT7.out.lt).alloc (.cells rZ 39))
        clear hb hin hoff hx' emcs err)
     | (refine wpl_store_blk rfl 34 (.tmp 7) (.tmp 57) rfl bs 34 cs mcs rfl rfl HT7a.out (by rw [HMZ.out,HCS.out]) (by rw [HMZ.out];exact Tryz.szSt) HMO.out ?_;intro w5 hB5 hO5
        have HNEW:=Lh (hO5.out.blk (Blk.new w4 39 rZ) (by have:=HT7.out.lt;have:=HB4.out.size;omega)))
     | (refine wpl_store_blk rfl 39 (.tmp 10) (.tmp 58) rfl w4.heap.size 39 rZ rr rfl rfl HNEW.out (by rw [HRZ.out];rfl) (by rw [HRZ.out];exact Tryz.szR) HRO.out ?_;intro w6 hB6 hO6))
    have RW1:=Lh (run_static RW0.out (by omega) HB4.out HIN.out HOF.out HX'.out ((Below.refl _ _).alloc (Nat.le_refl _) _) rfl (Blk.new w4 39 rZ).lt hO5.out (by rw [HMC.out];exact hB5.out) hO6.out)
    have HWI1:=Lh (show Wid m1.x from by rw [HX'.out];exact RW0.out.run.wid HWI.out (by omega) HC0.out.ok.sq HC0.out.ok.sm)
    have hb46:=(((Below.refl w4.heap.size w4).alloc (Nat.le_refl _) (.cells rZ 39)))
    have HX4:=Lh (HX3.out.below HB4.out HX3.out.lt)
    have HX6:=Lh (hO6.out.blk (hO5.out.blk (HX4.out.below hb46 HX4.out.lt) (by have:=H47.out;omega)) (by have:=HX4.out.lt;omega))
    obtain⟨rc,erc⟩:∃x,(applyM plF m0.x (n+1) c0.x).2.code=x:=⟨_,rfl⟩
    obtain⟨rv,erv⟩:∃x,(applyM plF m0.x (n+1) c0.x).2.version=x:=⟨_,rfl⟩
    have R0:=Lh (show rr[0]?=some (.int .i64 rc) from by rw [← HRR.out,← erc];rfl)
    have R1:=Lh (show rr[1]?=some (.int .u64 (rv:Int)) from by rw [← HRR.out,← erv];rfl)
    have ERC:=Lh erc
    have ERV:=Lh erv
    have H70:=Lh (show bs<w4.heap.size from Nat.lt_of_lt_of_le HT7.out.lt HB4.out.size)
    have HR6:=hB6
    have H44:=Lh (show b4<w4.heap.size from HX4.out.lt)
    obtain⟨br,e10⟩:∃b,w4.heap.size=b:=⟨_,rfl⟩
    rw [e10] at RW1 HR6 H70 H44 ⊢
    obtain⟨G1,eG1⟩:∃G1,br :: GG=G1:=⟨_,rfl⟩
    have HG1:=Lh (show br ∈ G1 from by rw [← eG1];exact List.mem_cons_self)
    rw [eG1] at RW1
    have x0:=(HX6.out.cell 0).trans K0.out
    have r0:=(HR6.out.cell 0).trans R0.out
    clear erc erv e10 eG1 hb46 HX4 HT7a HNEW hB6 hO6 hB5 hO5 HAP HX3 HT7 HRR
    obtain⟨pp,epp⟩:∃pp,((kd == 1) && (rc == 0))=pp:=⟨_,rfl⟩
    have EPP:=Lh epp
    clear epp
    go_upto_region 10 with (fail)
    go_cut [69] from 62 to 68 (fun s69 wx=>s69 = .bool pp∧Hid (w6=wx))
    case first =>
     cases e1:kd == 1 with
     | false =>
       go_wp2_with fail
       go_meet
       case rel=>exact⟨by rw [← EPP.out,e1];rfl,Lh rfl⟩
     | true =>
       cases e2:rc == 0 with
       | false =>
         go_wp2_with fail
         go_meet
         case rel=>exact⟨by rw [← EPP.out,e1,e2];rfl,Lh rfl⟩
       | true =>
         go_wp2_with fail
         go_meet
         case rel=>exact⟨by rw [← EPP.out,e1,e2];rfl,Lh rfl⟩
    case rest =>
     obtain⟨rfl,hw⟩:=hcut
     have hw:=hw.out
     subst hw
     clear x0 r0
     go_upto_if 69 with (fail)
     have HFH:=Lh (RW0.out.run.first (c:=c0.x) (by rw [EKD.out];exact HK.out))
     go_cut [9,12,13,14] from 69 to 91 (fun s9 s12 s13 s14 wx=>∃ (k:Nat) (m:MM) (G:List Nat) (rr':Array Value) (rc':Int),s9 = .int .u64 k∧k≤102∧Hid (RunW w G bs m k wx)∧Hid (Blk wx br 39 rr')∧Hid (rr'[0]?=some (.int .i64 rc'))∧Hid (Held c0.x rc' m.x.sess)∧Hid (Blk wx b4 48 ks)∧Hid (br ∈ G)∧Hid (Wid m.x))
     case first =>
      cases pp with
      | false =>
        have hheld:Held c0.x rc m1.x.sess:=by
         rcases HFH.out with ⟨h1,h2,-⟩ | ⟨-,h2⟩
         · have:=EPP.out
           rw [← EKD.out,← ERC.out,h1,h2] at this
           cases this
         · rw [HX'.out,← ERC.out];exact h2
        have HHE:=Lh hheld
        clear hheld
        go_wp2_with fail
        go_meet
        case rel=>exact⟨n+1,m1,G1,rr,rc,by rw [HQ.out],by omega,RW1,HR6,R0,HHE,HX6,HG1,HWI1⟩
      | true =>
        have hfirst:kd=1∧rc=0:=by
         have h:=EPP.out
         rw [Bool.and_eq_true,beq_iff_eq,beq_iff_eq] at h
         exact h
        obtain⟨hbad,xi,hxi,hxv,hxc,hxq⟩:askBad c0.x=false∧∃x ∈ m1.x.ints,x.obj.version=rv∧x.client=c0.x.client∧x.seq=c0.x.seq:=by
         rcases HFH.out with ⟨-,-,h3,h4⟩ | ⟨h2,-⟩
         · rw [HX'.out,← ERV.out];exact⟨h3,h4⟩
         · exact absurd ⟨EKD.out.trans hfirst.1,ERC.out.trans hfirst.2⟩ h2
        have hrv:rv<1000:=by
         have h1:=(RW1.out.run.may.fitI xi hxi).last
         have h2:=RW1.out.run.last
         omega
        have HCC:=Lh (RW1.out.run.commit (c:=c0.x) (b:=⟨2,0,0,[],0,0,rv,0,0,0,false,⟨0,0,0⟩,0,[]⟩) rfl hbad hxi hxv hxc hxq)
        have HW2:=Lh (show CmW w ⟨⟨2,0,0,[],0,0,rv,0,0,0,false,⟨0,0,0⟩,0,[]⟩,none,0⟩ from ⟨⟨⟨rfl,fun h=>absurd h (Nat.lt_irrefl 0)⟩,Nat.le_refl _,Nat.zero_le _⟩,⟨(fun y hy=>by cases hy),Nat.zero_le _,(fun y hy=>by cases hy),by show rv<_;omega,by show 0<18446744073709551616;omega,by show 0<18446744073709551616;omega,by show 0<4294967296;omega⟩⟩)
        obtain⟨q2,hq2⟩:∃q2,n+1+1=q2:=⟨_,rfl⟩
        have HQ2:=Lh hq2
        have hw2:IntKind.u64.wrap ((q:Int)+1)=(q2:Int):=by have:=HQ.out;rw [IntKind.wrap_u64];omega
        have HT7:=Lh (show Blk w6 bs 34 mcs from by rw [← HMC.out];exact RW1.out.blk)
        have y1:=(HR6.out.cell 1).trans R1.out
        clear hfirst hbad hxi hxv hxc hxq hrv hq2
        have HAP2:=Lh (show ∀W,Below w6.heap.size w6 W→∀G':List Nat,(∀q ∈ G',w6.heap.size≤q∧q<W.heap.size)→Calls Tryz.prog 9 #[.agg mcs,.int .u64 (q2:Int),.agg #[.int .i64 2,.int .u64 0,.int .u64 0,.string ⟨#[]⟩,.int .i64 0,.int .u32 0,.int .u64 (rv:Int),.int .u64 0,.int .i64 0,.int .i64 0,.bool false,.int .u64 0,.int .i64 0,.int .u64 0,.int .u64 0,.slice none 0 0]] W (RetApp (applyM plF m1.x (n+1+1) ⟨2,0,0,[],0,0,rv,0,0,0,false,⟨0,0,0⟩,0,[]⟩) (G' ++ G1) W) from by
         have h:=ap_calls RW1.out.inn RW1.out.run (by omega) RW1.out.off RW1.out.lt RW1.out.bel ⟨⟨2,0,0,[],0,0,rv,0,0,0,false,⟨0,0,0⟩,0,[]⟩,none,0⟩ HW2.out
         rw [← HQ2.out,← HMC.out]
         exact h)
        obtain⟨p2,ep2⟩:∃p2,applyM plF m1.x (n+1+1) ⟨2,0,0,[],0,0,rv,0,0,0,false,⟨0,0,0⟩,0,[]⟩=p2:=⟨_,rfl⟩
        have EP2:=Lh ep2
        rw [ep2] at HAP2 HCC
        clear ep2
        go_upto_region 12 with (first
         | (refine wpl_load_blk rfl 34 (.tmp 7) rfl bs 34 mcs _ rfl HT7.out Tryz.underlying34 rfl (by rw [HMZ.out];exact Tryz.szSt) ?_)
         | (go_at_call 9;refine (HAP2.out w6 (Below.refl _ _) [] (fun q hq=>by cases hq)).mono ?_;rintro e w7 ⟨m2,A3,c3,rfl,hin,hx',hb,hoff⟩
            have HB7:=Lh hb
            have HIN2:=Lh hin
            have HOF2:=Lh (show ∀q ∈ G1,m2.All (·.Off q) from hoff)
            have HX2':=Lh hx'
            obtain⟨mcs2,emcs2⟩:∃mcs2,m2.cs=mcs2:=⟨_,rfl⟩
            have HMC2:=Lh emcs2
            have HMZ2:=Lh (show mcs2.size=14 from by rw [← emcs2];rfl)
            have HMO2:=Lh (show mcs2.toList.all (·.oneCell')=true from by rw [← emcs2];rfl)
            rw [emcs2]
            obtain⟨rr2,err2⟩:∃rr2,rcs p2.2 A3 c3=rr2:=⟨_,rfl⟩
            have HRR2:=Lh err2
            have HRZ2:=Lh (show rr2.size=4 from by rw [← err2];rfl)
            have HRO2:=Lh (show rr2.toList.all (·.oneCell')=true from by rw [← err2];rfl)
            rw [err2]
            clear hb hin hoff hx' emcs2 err2)
         | (refine wpl_store_blk rfl 34 (.tmp 12) (.tmp 78) rfl w7.heap.size 34 mZ mcs2 rfl rfl ((Blk.new w7 34 mZ).alloc (.cells rZ 39)) (by rw [HMZ2.out];rfl) (by rw [HMZ2.out];exact Tryz.szSt) HMO2.out ?_;intro w8 hB8 hO8
            have HN13:=Lh (show Blk w8 (w7.heap.size+1) 39 rZ from by
             have h:=Blk.new (w7.alloc (.cells mZ 34)) 39 rZ
             rw [show (w7.alloc (.cells mZ 34)).heap.size=w7.heap.size+1 from by simp] at h
             exact hO8.out.blk h (by omega)))
         | (refine wpl_store_blk rfl 39 (.tmp 13) (.tmp 79) rfl (w7.heap.size+1) 39 rZ rr2 rfl rfl HN13.out (by rw [HRZ2.out];rfl) (by rw [HRZ2.out];exact Tryz.szR) HRO2.out ?_;intro w9 hB9 hO9))
        have HS:=Lh (ap_static HB7.out HIN2.out HOF2.out HX2'.out HRR2.out hO8.out (by rw [HMC2.out];exact hB8.out) hO9.out hB9.out)
        have HB69:=Lh HS.out.in_.bel
        have H712:=Lh (show bs<w7.heap.size from by have:=HT7.out.lt;have:=HB7.out.size;omega)
        have H1012:=Lh (show br<w7.heap.size from by have:=HR6.out.lt;have:=HB7.out.size;omega)
        obtain⟨b12,e12⟩:∃b12,w7.heap.size=b12:=⟨_,rfl⟩
        rw [e12] at HS H712 H1012 ⊢
        have hr20:rr2[0]?=some (.int .i64 1):=by rw [← HRR2.out,← HCC.out.1];rfl
        have R20:=Lh hr20
        have y13:=(HS.out.t8.cell 0).trans R20.out
        clear e12 hr20 hB8 hO8 hB9 hO9 HN13 HAP2 HMC y1 hw2
        have hw3:IntKind.u64.wrap ((q:Int)+1)=(q2:Int):=by have:=HQ.out;have:=HQ2.out;rw [IntKind.wrap_u64];omega
        go_upto_region 14 with (fail)
        clear y13
        refine wp_region_late (S0:=fun w'=>Blk w' b12 34 mcs2∧Blk w' (b12+1) 39 rr2) (S:=fun _=>True) 5 7 (by kernel_rfl) rfl ⟨⟨(by rw [← HMC2.out];exact HS.out.t7.drew),HS.out.t8.drew⟩,trivial⟩ (fun wd hwd hH=>?_)
        have DW:=Lh (show Below w9.heap.size w9 wd from by rw [hwd];exact (Below.refl _ _).drew)
        clear hwd
        have HSd:=Lh (HS.out.later DW.out)
        have B6D:=Lh (HB69.out.trans (DW.out.mono HB69.out.size))
        have HT7d:=Lh (HT7.out.below B6D.out HT7.out.lt)
        have HR6d:=Lh (HR6.out.below B6D.out HR6.out.lt)
        have HX6d:=Lh (HX6.out.below B6D.out HX6.out.lt)
        have HSE:=Lh EP2.out
        refine wpAnyT_stay 0 rfl (by kernel_rfl) (fun _ _ _ h=>h) (yields_load_blk rfl 34 (.tmp 12) rfl b12 34 mcs2 _ rfl (fun w' hw'=>hw'.1) Tryz.underlying34 rfl (by rw [HMZ2.out];exact Tryz.szSt)) ⟨hH.1,fun _=>hH.2⟩ ?_
        try simp only [Act.put,pA9,pZ9,pS9]
        refine wpAnyT_stay 1 rfl (by kernel_rfl) (fun _ _ _ h=>h) (yields_load_blk rfl 39 (.tmp 13) rfl (b12+1) 39 rr2 _ rfl (fun w' hw'=>hw'.2) Tryz.underlying39 rfl (by rw [HRZ2.out];exact Tryz.szR)) ⟨hH.1,fun _=>hH.2⟩ ?_
        try simp only [Act.put,pA9,pZ9,pS9]
        refine tS 2 rfl ?_ hH ?_ ?_
        rotate_left
        · (intro wx hx;go_simp <;> with_reducible rfl)
        try simp only [Act.put,pA9,pZ9,pS9]
        refine tS 3 rfl ?_ hH ?_ ?_
        rotate_left
        · (intro wx hx;go_simp <;> with_reducible rfl)
        try simp only [Act.put,pA9,pZ9,pS9]
        refine wpAnyT_one 4 rfl (by kernel_rfl) (fun K hQ=>?_)
        refine step_store_blk rfl 34 (.tmp 7) (.tmp 88) rfl bs 34 mcs mcs2 rfl rfl HT7d.out (by rw [HMZ2.out,HMZ.out]) (by rw [HMZ2.out];exact Tryz.szSt) HMO2.out ?_
        intro w10 hB10 hO10
        have T12:=Lh (hO10.out.blk hH.1.1 (by have:=H712.out;omega))
        have T13:=Lh (hO10.out.blk hH.1.2 (by have:=H712.out;omega))
        refine hQ.out _ _ ?_ (fun hH4=>?_)
        · exact⟨⟨T12.out,T13.out⟩,trivial⟩
        clear hQ K
        try simp only [Act.put,pA9,pZ9,pS9]
        refine wpAnyT_last 5 rfl (by kernel_rfl) (by decide) (fun K hQ=>?_)
        refine step_store_blk rfl 39 (.tmp 10) (.tmp 89) rfl br 39 rr rr2 rfl rfl (hO10.out.blk HR6d.out (by have:=H70.out;omega)) (by rw [HRZ2.out,HRZ.out]) (by rw [HRZ2.out];exact Tryz.szR) HRO2.out ?_
        intro w11 hB11 hO11
        refine hQ.out _ _ ?_ (fun hH5=>?_)
        · exact⟨hO11.out.blk T12.out (by have:=H1012.out;omega),hO11.out.blk T13.out (by have:=H1012.out;omega)⟩
        clear hQ K
        try simp only [Act.put,pA9,pZ9,pS9]
        refine tT 6 rfl ?_ ⟨hH5,fun h=>absurd h (by decide)⟩ ?_ ?_
        rotate_left
        · (intro wx hx;go_simp <;> with_reducible rfl)
        try simp only [Act.put,pA9,pZ9,pS9]
        refine wpAnyT_done (by kernel_rfl) ?_ _
        clear hH
        go_wp2_with fail
        go_meet
        case rel =>
         have HWI2:=Lh (show Wid m2.x from by rw [HX2'.out,← EP2.out];exact RW1.out.run.wid HWI1.out (by omega) (by show 0<18446744073709551616;omega) (by show 0<4294967296;omega))
         refine⟨n+1+1,m2,G1,rr2,1,by rw [HQ2.out],by omega,Lh ?_,Lh hB11.out,R20,Lh (by rw [HX2'.out];exact HCC.out.2),Lh (hO11.out.blk (hO10.out.blk HX6d.out (by have:=H47.out;omega)) (by have:=H44.out;omega)),HG1,HWI2⟩
         rw [← EP2.out] at HSd
         exact (RW1.out.next (by omega) HSd.out (by rw [HMC2.out];exact hB10.out) hO10.out).store hO11.out HG1.out (by have:=H70.out;omega)
     case rest =>
      obtain⟨k1,m2,G2,rr2,rc2,rfl,hk1,RW2,HR2,R20,HHE,HX2c,HG2,HWI2⟩:=hcut
      clear HX6 HR6 RW1 R0 R1 HFH EPP ERC ERV HG1
      go_wp2_with fail
      go_loopw [9,15] (fun vn vi wr=>∃ (j k:Nat) (m:MM),j≤n2∧vi = .int .i64 j∧vn = .int .u64 k∧k≤102+j∧Hid (RunW w G2 bs m k wr)∧Hid (Blk wr br 39 rr2)∧Hid (Blk wr b4 48 ks)∧Hid (Held c0.x rc2 m.x.sess)∧Hid (Wid m.x)) (fun _ vi _=>n2 - (intOf vi).toNat)
      case atStart=>exact⟨0,k1,m2,by omega,rfl,rfl,by omega,RW2,HR2,HX2c,HHE,HWI2⟩
      case round =>
       obtain⟨j,k,m,hj,rfl,rfl,hk,RW,HRr,HXr,HHEr,HWIr⟩:=hrel
       by_cases hlt:j<n2
       · have hmsl:j<cms2.length:=by have:=HLN2.out;omega
         obtain⟨ad,rfl,hadb,hcell⟩:=elem_cells (cells:=cmL) (K:=16) (fun _=>rfl) (HRD2.out.later RW.out.bel) hmsl (by omega)
         have hcw:=HCW2.out cms2[j] (List.getElem_mem hmsl)
         obtain⟨cm,ecm⟩:∃cm,cms2[j]=cm:=⟨_,rfl⟩
         rw [ecm] at hcell hcw
         have HAD:=Lh hadb
         have HCM:=Lh hcw
         obtain⟨qs,eqs⟩:∃qs,cmdCs cm.x cm.A cm.c=qs:=⟨_,rfl⟩
         have EQS:=Lh eqs
         have HQS:=Lh (show qs.size=16 from by rw [← eqs];rfl)
         have HC1:Hid (∀j' v,qs.toList[j']?=some v→wr.cell? ((ad.add (j*16)).add j')=some v):=by rw [← eqs];exact Lh hcell
         obtain⟨u1,eu1⟩:∃u,cm.x.client=u:=⟨_,rfl⟩
         obtain⟨u2,eu2⟩:∃u,c0.x.client=u:=⟨_,rfl⟩
         have EU1:=Lh eu1
         have EU2:=Lh eu2
         have y1:wr.cell? ⟨(ad.add (j*16)).block,(ad.add (j*16)).off+1,none⟩=some (.int .u64 (u1:Int)):=HC1.out 1 _ (by rw [← eqs,← eu1];rfl)
         have y2:wr.cell? ⟨b4,1,none⟩=some (.int .u64 (u2:Int)):=(HXr.out.cell 1).trans (by rw [K1.out,eu2])
         clear ecm hmsl hadb hcell hcw eqs eu1 eu2
         obtain⟨same,esame⟩:∃b,((u1:Int) == (u2:Int))=b:=⟨_,rfl⟩
         have ESA:=Lh esame
         go_upto_region 18 with (fail)
         refine wp_region_late (S0:=fun w'=>Below wr.heap.size wr w'∧w'.cell? ⟨(ad.add (j*16)).block,(ad.add (j*16)).off+1,none⟩=some (.int .u64 (u1:Int))∧w'.cell? ⟨b4,1,none⟩=some (.int .u64 (u2:Int))) (S:=fun _=>True) 7 8 (by kernel_rfl) rfl ⟨⟨(Below.refl _ _).drew,y1,y2⟩,trivial⟩ (fun wz hwd hH=>?_)
         have DW:=Lh (show Below wr.heap.size wr wz from by rw [hwd];exact (Below.refl _ _).drew)
         clear hwd
         refine tS 0 rfl ?_ hH ?_ ?_
         rotate_left
         · (intro wx hx;obtain⟨_,_,_⟩:=hx;go_simp <;> with_reducible rfl)
         try simp only [Act.put,pA9,pZ9,pS9]
         refine tS 1 rfl ?_ hH ?_ ?_
         rotate_left
         · (intro wx hx;obtain⟨_,_,_⟩:=hx;go_simp <;> with_reducible rfl)
         try simp only [Act.put,pA9,pZ9,pS9]
         refine tS 2 rfl ?_ hH ?_ ?_
         rotate_left
         · (intro wx hx;obtain⟨_,_,_⟩:=hx;go_simp <;> with_reducible rfl)
         try simp only [Act.put,pA9,pZ9,pS9]
         refine tS 3 rfl ?_ hH ?_ ?_
         rotate_left
         · (intro wx hx;obtain⟨_,_,_⟩:=hx;go_simp <;> with_reducible rfl)
         try simp only [Act.put,pA9,pZ9,pS9]
         refine tS 4 rfl ?_ hH ?_ ?_
         rotate_left
         · (intro wx hx;obtain⟨_,_,_⟩:=hx;go_simp <;> with_reducible rfl)
         try simp only [Act.put,pA9,pZ9,pS9]
         refine tS 5 rfl ?_ hH ?_ ?_
         rotate_left
         · (intro wx hx;obtain⟨_,_,_⟩:=hx;go_simp <;> with_reducible rfl)
         try simp only [Act.put,pA9,pZ9,pS9]
         refine tS 6 rfl ?_ hH ?_ ?_
         rotate_left
         · (intro wx hx;obtain⟨_,_,_⟩:=hx;go_simp <;> with_reducible rfl)
         try simp only [Act.put,pA9,pZ9,pS9]
         refine wpAnyT_last 7 rfl (by kernel_rfl) (by decide) (fun K hQ=>?_)
         go_simp
         refine hQ.out _ _ ?_ (fun hH7=>?_)
         · exact hH.1
         clear hQ K
         try simp only [Act.put,pA9,pZ9,pS9]
         refine wpAnyT_done (by kernel_rfl) ?_ _
         clear hH hH7 y1 y2
         have RWz:=Lh (RW.out.later DW.out)
         have HRz:=Lh (HRr.out.below DW.out HRr.out.lt)
         have HXz:=Lh (HXr.out.below DW.out HXr.out.lt)
         have HC1:Hid (∀j' v,qs.toList[j']?=some v→wz.cell? ((ad.add (j*16)).add j')=some v):=Lh fun j' v hv=>(Below.cell DW.out (p:=(ad.add (j*16)).add j') (by rw [block_of_add,block_of_add];exact HAD.out)).trans (HC1.out j' v hv)
         have HAD:=Lh (show ad.block<wz.heap.size from Nat.lt_of_lt_of_le HAD.out DW.out.size)
         clear RW HRr HXr
         cases same with
         | true =>
           clear esame
           go_wp2
           exact⟨⟨j+1,k,m,by omega,by go_num,rfl,by omega,RWz,HRz,HXz,HHEr,HWIr⟩,by simp [intOf];omega⟩
         | false =>
           clear esame
           have HHN:=Lh (RWz.out.run.held HHEr.out (b:=cm.x) (by
            have h1:=EU1.out
            have h2:=EU2.out
            have h3:=beq_eq_false_iff_ne.1 ESA.out
            omega))
           obtain⟨q',hq'⟩:∃q',k+1=q':=⟨_,rfl⟩
           have HQk:=Lh hq'
           have hw1:IntKind.u64.wrap ((k:Int)+1)=(q':Int):=by rw [IntKind.wrap_u64];omega
           have hap:=ap_calls RWz.out.inn RWz.out.run (by omega) RWz.out.off RWz.out.lt RWz.out.bel cm HCM.out
           obtain⟨cs,ecs⟩:∃cs,m.cs=cs:=⟨_,rfl⟩
           have HCS:=Lh (show cs.size=14 from by rw [← ecs];rfl)
           have HCO:=Lh (show cs.toList.all (·.oneCell')=true from by rw [← ecs];rfl)
           have HBS:=Lh (show Blk wz bs 34 cs from by rw [← ecs];exact RWz.out.blk)
           have HAP:=Lh (show ∀W,Below wz.heap.size wz W→∀G1:List Nat,(∀q ∈ G1,wz.heap.size≤q∧q<W.heap.size)→Calls Tryz.prog 9 #[.agg cs,.int .u64 (q':Int),.agg qs] W (RetApp (applyM plF m.x (k+1) cm.x) (G1 ++ G2) W) from by rw [← hq',← ecs,← EQS.out];exact hap)
           clear hap ecs hq'
           go_upto_region 19 with (fail)
           go_cut [16,17,18] from 105 to 117 (fun s7 s8 s9 wx=>∃ (b7 b8:Nat) (m':MM) (rr:Array Value),s7 = .pointer (some ⟨b7,0,none⟩)∧s8 = .pointer (some ⟨b8,0,none⟩)∧s9 = .int .i64 0∧Hid (ApS wz G2 (applyM plF m.x (k+1) cm.x) m' b7 b8 rr wx))
           case first =>
            refine wp_region_late (S0:=fun w'=>Below wz.heap.size wz w') (S:=fun _=>True) 15 17 (by kernel_rfl) rfl ⟨(Below.refl _ _).drew,trivial⟩ (fun x0 hwd hH=>?_)
            have BX0:=Lh (show Below wz.heap.size wz x0 from by rw [hwd];exact (Below.refl _ _).drew)
            clear hwd
            refine wpAnyT_stay 0 rfl (by kernel_rfl) (fun _ _ _ h=>h) (yields_load_blk rfl 34 (.tmp 7) rfl bs 34 cs _ rfl (fun w' hw'=>HBS.out.below hw' HBS.out.lt) Tryz.underlying34 rfl (by rw [HCS.out];exact Tryz.szSt)) ⟨hH.1,fun _=>hH.2⟩ ?_
            try simp only [Act.put,pA9,pZ9,pS9]
            refine tS 1 rfl ?_ hH ?_ ?_
            rotate_left
            · (intro wx hx;go_simp <;> with_reducible rfl)
            try simp only [Act.put,pA9,pZ9,pS9]
            refine tS 2 rfl ?_ hH ?_ ?_
            rotate_left
            · (intro wx hx;go_simp <;> with_reducible rfl)
            try simp only [Act.put,pA9,pZ9,pS9]
            refine tS 3 rfl ?_ hH ?_ ?_
            rotate_left
            · (intro wx hx;go_simp <;> with_reducible rfl)
            try simp only [Act.put,pA9,pZ9,pS9]
            refine tS 4 rfl ?_ hH ?_ ?_
            rotate_left
            · (intro wx hx;go_simp <;> with_reducible rfl)
            try simp only [Act.put,pA9,pZ9,pS9]
            refine tS 5 rfl ?_ hH ?_ ?_
            rotate_left
            · (intro wx hx;go_simp <;> with_reducible rfl)
            try simp only [Act.put,pA9,pZ9,pS9]
            refine wpAnyT_stay 6 rfl (by kernel_rfl) (fun _ _ _ h=>h) (yields_load_at rfl 48 (.tmp 112) rfl (ad.add (j*16)) qs.toList _ rfl (fun w' hw' j' v hv=>(Below.cell hw' (p:=(ad.add (j*16)).add j') (by rw [block_of_add,block_of_add];exact HAD.out)).trans (HC1.out j' v hv)) Tryz.underlying48 rfl (by rw [Array.length_toList,HQS.out];exact Tryz.szCm)) ⟨hH.1,fun _=>hH.2⟩ ?_
            try simp only [Act.put,pA9,pZ9,pS9]
            refine wpAnyT_three 7 12 13 rfl rfl rfl (by kernel_rfl) (fun K hQ=>?_) (fun K hQ=>?_) (fun K hQ=>?_)
            · rw [if_pos (by rfl)]
              go_simp
              (go_at_call 9;refine (HAP.out x0 BX0.out [] (fun q hq=>by cases hq)).mono ?_;rintro e x1 ⟨m',A',c',rfl,hin,hx',hb,hoff⟩)
              have BX1:=Lh (BX0.out.trans (hb.mono BX0.out.size))
              have HAI:=Lh (show ApI wz ([] ++ G2) m' x1 from ⟨BX1.out,hin,hoff⟩)
              have HX':=Lh hx'
              obtain⟨mcs,emcs⟩:∃mcs,m'.cs=mcs:=⟨_,rfl⟩
              have HMC:=Lh emcs
              have HMZ:=Lh (show mcs.size=14 from by rw [← emcs];rfl)
              have HMO:=Lh (show mcs.toList.all (·.oneCell')=true from by rw [← emcs];rfl)
              rw [emcs]
              obtain⟨rr,err⟩:∃rr,rcs (applyM plF m.x (k+1) cm.x).2 A' c'=rr:=⟨_,rfl⟩
              have HRR:=Lh err
              have HRZ:=Lh (show rr.size=4 from by rw [← err];rfl)
              have HRO:=Lh (show rr.toList.all (·.oneCell')=true from by rw [← err];rfl)
              rw [err]
              clear hb hin hoff hx' emcs err
              refine hQ.out _ _ ?_ (fun hH1=>?_)
              · exact⟨BX1.out,trivial⟩
              clear hQ K
              try simp only [Act.put,pA9,pZ9,pS9]
              refine tS 8 rfl ?_ hH1 ?_ ?_
              rotate_left
              · (intro wx hx;go_simp <;> with_reducible rfl)
              try simp only [Act.put,pA9,pZ9,pS9]
              refine tS 9 rfl ?_ hH1 ?_ ?_
              rotate_left
              · (intro wx hx;go_simp <;> with_reducible rfl)
              try simp only [Act.put,pA9,pZ9,pS9]
              refine tS 10 rfl ?_ hH1 ?_ ?_
              rotate_left
              · (intro wx hx;go_simp <;> with_reducible rfl)
              try simp only [Act.put,pA9,pZ9,pS9]
              refine tS 11 rfl ?_ hH1 ?_ ?_
              rotate_left
              · (intro wx hx;go_simp <;> with_reducible rfl)
              try simp only [Act.put,pA9,pZ9,pS9]
              refine wpAnyT_two 12 13 rfl rfl (by kernel_rfl) (fun K hQ=>?_) (fun K hQ=>?_)
              · rw [if_pos (by rfl)]
                go_simp
                obtain⟨x2,ew⟩:∃w6,x1.alloc (.cells mZ 34)=w6:=⟨_,rfl⟩
                have hb:Below x1.heap.size x1 (x1.alloc (.cells mZ 34)):=(Below.refl _ _).alloc (Nat.le_refl _) _
                have hg:=Blk.new x1 34 mZ
                rw [ew] at hb hg
                have ew':x1.alloc (.cells #[.int .i64 0,.int .i64 0,.int .i64 0,.int .u64 0,.slice none 0 0,.int .u64 0,.slice none 0 0,.slice none 0 0,.slice none 0 0,.slice none 0 0,.slice none 0 0,.slice none 0 0,.slice none 0 0,.int .u64 0] 34)=x2:=ew
                rw [ew']
                obtain⟨b7,eb⟩:∃b,x1.heap.size=b:=⟨_,rfl⟩
                have H7G:=Lh (show wz.heap.size≤b7 from by rw [← eb];exact BX1.out.size)
                have HAI:=Lh (HAI.out.alloc hb (Nat.le_of_eq eb))
                have BX2:=Lh (BX1.out.trans (hb.mono BX1.out.size))
                rw [eb] at hg ⊢
                have HP7:=Lh hg
                clear hb hg ew ew' eb
                refine hQ.out _ _ ?_ (fun hH2=>?_)
                · exact⟨BX2.out,trivial⟩
                clear hQ K
                try simp only [Act.put,pA9,pZ9,pS9]
                refine wpAnyT_one 13 rfl (by kernel_rfl) (fun K hQ=>?_)
                rw [if_pos (by rfl)]
                go_simp
                obtain⟨x3,ew⟩:∃w6,x2.alloc (.cells rZ 39)=w6:=⟨_,rfl⟩
                have hb:Below x2.heap.size x2 (x2.alloc (.cells rZ 39)):=(Below.refl _ _).alloc (Nat.le_refl _) _
                have hg:=Blk.new x2 39 rZ
                rw [ew] at hb hg
                have ew':x2.alloc (.cells #[.int .i64 0,.int .u64 0,.slice none 0 0,.int .u64 0] 39)=x3:=ew
                rw [ew']
                obtain⟨b8,eb⟩:∃b,x2.heap.size=b:=⟨_,rfl⟩
                have H8G:=Lh (show wz.heap.size≤b8 from by rw [← eb];exact BX2.out.size)
                have HNE:=Lh (show b7<b8 from by rw [← eb];exact HP7.out.lt)
                have HAI:=Lh (HAI.out.alloc hb (Nat.le_of_eq eb))
                have BX3:=Lh (BX2.out.trans (hb.mono BX2.out.size))
                have HP7:=Lh (HP7.out.below hb HP7.out.lt)
                rw [eb] at hg ⊢
                have HP8:=Lh hg
                clear hb hg ew ew' eb
                refine hQ.out _ _ ?_ (fun hH3=>?_)
                · exact⟨BX3.out,trivial⟩
                clear hQ K
                try simp only [Act.put,pA9,pZ9,pS9]
                refine wpAnyT_one 14 rfl (by kernel_rfl) (fun K hQ=>?_)
                refine step_store_blk rfl 34 (.tmp 16) (.tmp 115) rfl b7 34 mZ mcs rfl rfl HP7.out (by rw [HMZ.out];rfl) (by rw [HMZ.out];exact Tryz.szSt) HMO.out ?_
                intro x4 hB4 hO4
                have BX4:=Lh (BX3.out.trans (hO4.out.below H7G.out))
                refine hQ.out _ _ ?_ (fun hH314=>?_)
                · exact⟨BX4.out,trivial⟩
                clear hQ K
                try simp only [Act.put,pA9,pZ9,pS9]
                refine wpAnyT_last 15 rfl (by kernel_rfl) (by decide) (fun K hQ=>?_)
                refine step_store_blk rfl 39 (.tmp 17) (.tmp 116) rfl b8 39 rZ rr rfl rfl (hO4.out.blk HP8.out (by have:=HNE.out;omega)) (by rw [HRZ.out];rfl) (by rw [HRZ.out];exact Tryz.szR) HRO.out ?_
                intro x5 hB5 hO5
                have BX5:=Lh (BX4.out.trans (hO5.out.below H8G.out))
                refine hQ.out _ _ ?_ (fun hH315=>?_)
                · exact BX5.out
                clear hQ K
                try simp only [Act.put,pA9,pZ9,pS9]
                refine tT 16 rfl ?_ ⟨hH315,fun h=>absurd h (by decide)⟩ ?_ ?_
                rotate_left
                · (intro wx hx;go_simp <;> with_reducible rfl)
                try simp only [Act.put,pA9,pZ9,pS9]
                refine wpAnyT_done (by kernel_rfl) ?_ _
                go_wp2_with fail
                go_meet
                case rel=>exact⟨b7,b8,m',rr,rfl,rfl,rfl,Lh (ApS.mk' ((HAI.out.store hO4.out (by simp) H7G.out).store hO5.out (by simp) H8G.out) (fun q hq=>by simp [hq]) (by simp) (by simp) ⟨A',c',HRR.out.symm⟩ HX'.out (by rw [HMC.out];exact hO5.out.blk hB4.out (by have:=HNE.out;omega)) hB5.out H7G.out H8G.out)⟩
              · rw [if_pos (by rfl)]
                go_simp
                obtain⟨x2,ew⟩:∃w6,x1.alloc (.cells rZ 39)=w6:=⟨_,rfl⟩
                have hb:Below x1.heap.size x1 (x1.alloc (.cells rZ 39)):=(Below.refl _ _).alloc (Nat.le_refl _) _
                have hg:=Blk.new x1 39 rZ
                rw [ew] at hb hg
                have ew':x1.alloc (.cells #[.int .i64 0,.int .u64 0,.slice none 0 0,.int .u64 0] 39)=x2:=ew
                rw [ew']
                obtain⟨b8,eb⟩:∃b,x1.heap.size=b:=⟨_,rfl⟩
                have H8G:=Lh (show wz.heap.size≤b8 from by rw [← eb];exact BX1.out.size)
                have HAI:=Lh (HAI.out.alloc hb (Nat.le_of_eq eb))
                have BX2:=Lh (BX1.out.trans (hb.mono BX1.out.size))
                rw [eb] at hg ⊢
                have HP8:=Lh hg
                clear hb hg ew ew' eb
                refine hQ.out _ _ ?_ (fun hH2=>?_)
                · exact⟨BX2.out,trivial⟩
                clear hQ K
                try simp only [Act.put,pA9,pZ9,pS9]
                refine wpAnyT_one 12 rfl (by kernel_rfl) (fun K hQ=>?_)
                rw [if_pos (by rfl)]
                go_simp
                obtain⟨x3,ew⟩:∃w6,x2.alloc (.cells mZ 34)=w6:=⟨_,rfl⟩
                have hb:Below x2.heap.size x2 (x2.alloc (.cells mZ 34)):=(Below.refl _ _).alloc (Nat.le_refl _) _
                have hg:=Blk.new x2 34 mZ
                rw [ew] at hb hg
                have ew':x2.alloc (.cells #[.int .i64 0,.int .i64 0,.int .i64 0,.int .u64 0,.slice none 0 0,.int .u64 0,.slice none 0 0,.slice none 0 0,.slice none 0 0,.slice none 0 0,.slice none 0 0,.slice none 0 0,.slice none 0 0,.int .u64 0] 34)=x3:=ew
                rw [ew']
                obtain⟨b7,eb⟩:∃b,x2.heap.size=b:=⟨_,rfl⟩
                have H7G:=Lh (show wz.heap.size≤b7 from by rw [← eb];exact BX2.out.size)
                have HNE:=Lh (show b8<b7 from by rw [← eb];exact HP8.out.lt)
                have HAI:=Lh (HAI.out.alloc hb (Nat.le_of_eq eb))
                have BX3:=Lh (BX2.out.trans (hb.mono BX2.out.size))
                have HP8:=Lh (HP8.out.below hb HP8.out.lt)
                rw [eb] at hg ⊢
                have HP7:=Lh hg
                clear hb hg ew ew' eb
                refine hQ.out _ _ ?_ (fun hH3=>?_)
                · exact⟨BX3.out,trivial⟩
                clear hQ K
                try simp only [Act.put,pA9,pZ9,pS9]
                refine wpAnyT_one 14 rfl (by kernel_rfl) (fun K hQ=>?_)
                refine step_store_blk rfl 34 (.tmp 16) (.tmp 115) rfl b7 34 mZ mcs rfl rfl HP7.out (by rw [HMZ.out];rfl) (by rw [HMZ.out];exact Tryz.szSt) HMO.out ?_
                intro x4 hB4 hO4
                have BX4:=Lh (BX3.out.trans (hO4.out.below H7G.out))
                refine hQ.out _ _ ?_ (fun hH314=>?_)
                · exact⟨BX4.out,trivial⟩
                clear hQ K
                try simp only [Act.put,pA9,pZ9,pS9]
                refine wpAnyT_last 15 rfl (by kernel_rfl) (by decide) (fun K hQ=>?_)
                refine step_store_blk rfl 39 (.tmp 17) (.tmp 116) rfl b8 39 rZ rr rfl rfl (hO4.out.blk HP8.out (by have:=HNE.out;omega)) (by rw [HRZ.out];rfl) (by rw [HRZ.out];exact Tryz.szR) HRO.out ?_
                intro x5 hB5 hO5
                have BX5:=Lh (BX4.out.trans (hO5.out.below H8G.out))
                refine hQ.out _ _ ?_ (fun hH315=>?_)
                · exact BX5.out
                clear hQ K
                try simp only [Act.put,pA9,pZ9,pS9]
                refine tT 16 rfl ?_ ⟨hH315,fun h=>absurd h (by decide)⟩ ?_ ?_
                rotate_left
                · (intro wx hx;go_simp <;> with_reducible rfl)
                try simp only [Act.put,pA9,pZ9,pS9]
                refine wpAnyT_done (by kernel_rfl) ?_ _
                go_wp2_with fail
                go_meet
                case rel=>exact⟨b7,b8,m',rr,rfl,rfl,rfl,Lh (ApS.mk' ((HAI.out.store hO4.out (by simp) H7G.out).store hO5.out (by simp) H8G.out) (fun q hq=>by simp [hq]) (by simp) (by simp) ⟨A',c',HRR.out.symm⟩ HX'.out (by rw [HMC.out];exact hO5.out.blk hB4.out (by have:=HNE.out;omega)) hB5.out H7G.out H8G.out)⟩
            · rw [if_pos (by rfl)]
              go_simp
              obtain⟨x1,ew⟩:∃w6,x0.alloc (.cells mZ 34)=w6:=⟨_,rfl⟩
              have hb:Below x0.heap.size x0 (x0.alloc (.cells mZ 34)):=(Below.refl _ _).alloc (Nat.le_refl _) _
              have hg:=Blk.new x0 34 mZ
              rw [ew] at hb hg
              have ew':x0.alloc (.cells #[.int .i64 0,.int .i64 0,.int .i64 0,.int .u64 0,.slice none 0 0,.int .u64 0,.slice none 0 0,.slice none 0 0,.slice none 0 0,.slice none 0 0,.slice none 0 0,.slice none 0 0,.slice none 0 0,.int .u64 0] 34)=x1:=ew
              rw [ew']
              obtain⟨b7,eb⟩:∃b,x0.heap.size=b:=⟨_,rfl⟩
              have H7G:=Lh (show wz.heap.size≤b7 from by rw [← eb];exact BX0.out.size)
              have BX1:=Lh (BX0.out.trans (hb.mono BX0.out.size))
              rw [eb] at hg ⊢
              have HP7:=Lh hg
              clear hb hg ew ew' eb
              refine hQ.out _ _ ?_ (fun hH1=>?_)
              · exact⟨BX1.out,trivial⟩
              clear hQ K
              try simp only [Act.put,pA9,pZ9,pS9]
              refine wpAnyT_two 7 13 rfl rfl (by kernel_rfl) (fun K hQ=>?_) (fun K hQ=>?_)
              · rw [if_pos (by rfl)]
                go_simp
                (go_at_call 9;refine (HAP.out x1 BX1.out [b7] (fun q hq=>by simp only [List.mem_cons,List.not_mem_nil,or_false] at hq;rcases hq with rfl <;> exact⟨H7G.out,HP7.out.lt⟩)).mono ?_;rintro e x2 ⟨m',A',c',rfl,hin,hx',hb,hoff⟩)
                have BX2:=Lh (BX1.out.trans (hb.mono BX1.out.size))
                have HP7:=Lh (HP7.out.below hb HP7.out.lt)
                have HAI:=Lh (show ApI wz ([b7] ++ G2) m' x2 from ⟨BX2.out,hin,hoff⟩)
                have HX':=Lh hx'
                obtain⟨mcs,emcs⟩:∃mcs,m'.cs=mcs:=⟨_,rfl⟩
                have HMC:=Lh emcs
                have HMZ:=Lh (show mcs.size=14 from by rw [← emcs];rfl)
                have HMO:=Lh (show mcs.toList.all (·.oneCell')=true from by rw [← emcs];rfl)
                rw [emcs]
                obtain⟨rr,err⟩:∃rr,rcs (applyM plF m.x (k+1) cm.x).2 A' c'=rr:=⟨_,rfl⟩
                have HRR:=Lh err
                have HRZ:=Lh (show rr.size=4 from by rw [← err];rfl)
                have HRO:=Lh (show rr.toList.all (·.oneCell')=true from by rw [← err];rfl)
                rw [err]
                clear hb hin hoff hx' emcs err
                refine hQ.out _ _ ?_ (fun hH2=>?_)
                · exact⟨BX2.out,trivial⟩
                clear hQ K
                try simp only [Act.put,pA9,pZ9,pS9]
                refine tS 8 rfl ?_ hH2 ?_ ?_
                rotate_left
                · (intro wx hx;go_simp <;> with_reducible rfl)
                try simp only [Act.put,pA9,pZ9,pS9]
                refine tS 9 rfl ?_ hH2 ?_ ?_
                rotate_left
                · (intro wx hx;go_simp <;> with_reducible rfl)
                try simp only [Act.put,pA9,pZ9,pS9]
                refine tS 10 rfl ?_ hH2 ?_ ?_
                rotate_left
                · (intro wx hx;go_simp <;> with_reducible rfl)
                try simp only [Act.put,pA9,pZ9,pS9]
                refine tS 11 rfl ?_ hH2 ?_ ?_
                rotate_left
                · (intro wx hx;go_simp <;> with_reducible rfl)
                try simp only [Act.put,pA9,pZ9,pS9]
                refine wpAnyT_one 13 rfl (by kernel_rfl) (fun K hQ=>?_)
                rw [if_pos (by rfl)]
                go_simp
                obtain⟨x3,ew⟩:∃w6,x2.alloc (.cells rZ 39)=w6:=⟨_,rfl⟩
                have hb:Below x2.heap.size x2 (x2.alloc (.cells rZ 39)):=(Below.refl _ _).alloc (Nat.le_refl _) _
                have hg:=Blk.new x2 39 rZ
                rw [ew] at hb hg
                have ew':x2.alloc (.cells #[.int .i64 0,.int .u64 0,.slice none 0 0,.int .u64 0] 39)=x3:=ew
                rw [ew']
                obtain⟨b8,eb⟩:∃b,x2.heap.size=b:=⟨_,rfl⟩
                have H8G:=Lh (show wz.heap.size≤b8 from by rw [← eb];exact BX2.out.size)
                have HNE:=Lh (show b7<b8 from by rw [← eb];exact HP7.out.lt)
                have HAI:=Lh (HAI.out.alloc hb (Nat.le_of_eq eb))
                have BX3:=Lh (BX2.out.trans (hb.mono BX2.out.size))
                have HP7:=Lh (HP7.out.below hb HP7.out.lt)
                rw [eb] at hg ⊢
                have HP8:=Lh hg
                clear hb hg ew ew' eb
                refine hQ.out _ _ ?_ (fun hH3=>?_)
                · exact⟨BX3.out,trivial⟩
                clear hQ K
                try simp only [Act.put,pA9,pZ9,pS9]
                refine wpAnyT_one 14 rfl (by kernel_rfl) (fun K hQ=>?_)
                refine step_store_blk rfl 34 (.tmp 16) (.tmp 115) rfl b7 34 mZ mcs rfl rfl HP7.out (by rw [HMZ.out];rfl) (by rw [HMZ.out];exact Tryz.szSt) HMO.out ?_
                intro x4 hB4 hO4
                have BX4:=Lh (BX3.out.trans (hO4.out.below H7G.out))
                refine hQ.out _ _ ?_ (fun hH314=>?_)
                · exact⟨BX4.out,trivial⟩
                clear hQ K
                try simp only [Act.put,pA9,pZ9,pS9]
                refine wpAnyT_last 15 rfl (by kernel_rfl) (by decide) (fun K hQ=>?_)
                refine step_store_blk rfl 39 (.tmp 17) (.tmp 116) rfl b8 39 rZ rr rfl rfl (hO4.out.blk HP8.out (by have:=HNE.out;omega)) (by rw [HRZ.out];rfl) (by rw [HRZ.out];exact Tryz.szR) HRO.out ?_
                intro x5 hB5 hO5
                have BX5:=Lh (BX4.out.trans (hO5.out.below H8G.out))
                refine hQ.out _ _ ?_ (fun hH315=>?_)
                · exact BX5.out
                clear hQ K
                try simp only [Act.put,pA9,pZ9,pS9]
                refine tT 16 rfl ?_ ⟨hH315,fun h=>absurd h (by decide)⟩ ?_ ?_
                rotate_left
                · (intro wx hx;go_simp <;> with_reducible rfl)
                try simp only [Act.put,pA9,pZ9,pS9]
                refine wpAnyT_done (by kernel_rfl) ?_ _
                go_wp2_with fail
                go_meet
                case rel=>exact⟨b7,b8,m',rr,rfl,rfl,rfl,Lh (ApS.mk' ((HAI.out.store hO4.out (by simp) H7G.out).store hO5.out (by simp) H8G.out) (fun q hq=>by simp [hq]) (by simp) (by simp) ⟨A',c',HRR.out.symm⟩ HX'.out (by rw [HMC.out];exact hO5.out.blk hB4.out (by have:=HNE.out;omega)) hB5.out H7G.out H8G.out)⟩
              · rw [if_pos (by rfl)]
                go_simp
                obtain⟨x2,ew⟩:∃w6,x1.alloc (.cells rZ 39)=w6:=⟨_,rfl⟩
                have hb:Below x1.heap.size x1 (x1.alloc (.cells rZ 39)):=(Below.refl _ _).alloc (Nat.le_refl _) _
                have hg:=Blk.new x1 39 rZ
                rw [ew] at hb hg
                have ew':x1.alloc (.cells #[.int .i64 0,.int .u64 0,.slice none 0 0,.int .u64 0] 39)=x2:=ew
                rw [ew']
                obtain⟨b8,eb⟩:∃b,x1.heap.size=b:=⟨_,rfl⟩
                have H8G:=Lh (show wz.heap.size≤b8 from by rw [← eb];exact BX1.out.size)
                have HNE:=Lh (show b7<b8 from by rw [← eb];exact HP7.out.lt)
                have BX2:=Lh (BX1.out.trans (hb.mono BX1.out.size))
                have HP7:=Lh (HP7.out.below hb HP7.out.lt)
                rw [eb] at hg ⊢
                have HP8:=Lh hg
                clear hb hg ew ew' eb
                refine hQ.out _ _ ?_ (fun hH2=>?_)
                · exact⟨BX2.out,trivial⟩
                clear hQ K
                try simp only [Act.put,pA9,pZ9,pS9]
                refine wpAnyT_one 7 rfl (by kernel_rfl) (fun K hQ=>?_)
                rw [if_pos (by rfl)]
                go_simp
                (go_at_call 9;refine (HAP.out x2 BX2.out [b8,b7] (fun q hq=>by simp only [List.mem_cons,List.not_mem_nil,or_false] at hq;rcases hq with rfl | rfl <;> first | exact⟨H8G.out,HP8.out.lt⟩ | exact⟨H7G.out,HP7.out.lt⟩)).mono ?_;rintro e x3 ⟨m',A',c',rfl,hin,hx',hb,hoff⟩)
                have BX3:=Lh (BX2.out.trans (hb.mono BX2.out.size))
                have HP7:=Lh (HP7.out.below hb HP7.out.lt)
                have HP8:=Lh (HP8.out.below hb HP8.out.lt)
                have HAI:=Lh (show ApI wz ([b8,b7] ++ G2) m' x3 from ⟨BX3.out,hin,hoff⟩)
                have HX':=Lh hx'
                obtain⟨mcs,emcs⟩:∃mcs,m'.cs=mcs:=⟨_,rfl⟩
                have HMC:=Lh emcs
                have HMZ:=Lh (show mcs.size=14 from by rw [← emcs];rfl)
                have HMO:=Lh (show mcs.toList.all (·.oneCell')=true from by rw [← emcs];rfl)
                rw [emcs]
                obtain⟨rr,err⟩:∃rr,rcs (applyM plF m.x (k+1) cm.x).2 A' c'=rr:=⟨_,rfl⟩
                have HRR:=Lh err
                have HRZ:=Lh (show rr.size=4 from by rw [← err];rfl)
                have HRO:=Lh (show rr.toList.all (·.oneCell')=true from by rw [← err];rfl)
                rw [err]
                clear hb hin hoff hx' emcs err
                refine hQ.out _ _ ?_ (fun hH3=>?_)
                · exact⟨BX3.out,trivial⟩
                clear hQ K
                try simp only [Act.put,pA9,pZ9,pS9]
                refine tS 8 rfl ?_ hH3 ?_ ?_
                rotate_left
                · (intro wx hx;go_simp <;> with_reducible rfl)
                try simp only [Act.put,pA9,pZ9,pS9]
                refine tS 9 rfl ?_ hH3 ?_ ?_
                rotate_left
                · (intro wx hx;go_simp <;> with_reducible rfl)
                try simp only [Act.put,pA9,pZ9,pS9]
                refine tS 10 rfl ?_ hH3 ?_ ?_
                rotate_left
                · (intro wx hx;go_simp <;> with_reducible rfl)
                try simp only [Act.put,pA9,pZ9,pS9]
                refine tS 11 rfl ?_ hH3 ?_ ?_
                rotate_left
                · (intro wx hx;go_simp <;> with_reducible rfl)
                try simp only [Act.put,pA9,pZ9,pS9]
                refine wpAnyT_one 14 rfl (by kernel_rfl) (fun K hQ=>?_)
                refine step_store_blk rfl 34 (.tmp 16) (.tmp 115) rfl b7 34 mZ mcs rfl rfl HP7.out (by rw [HMZ.out];rfl) (by rw [HMZ.out];exact Tryz.szSt) HMO.out ?_
                intro x4 hB4 hO4
                have BX4:=Lh (BX3.out.trans (hO4.out.below H7G.out))
                refine hQ.out _ _ ?_ (fun hH314=>?_)
                · exact⟨BX4.out,trivial⟩
                clear hQ K
                try simp only [Act.put,pA9,pZ9,pS9]
                refine wpAnyT_last 15 rfl (by kernel_rfl) (by decide) (fun K hQ=>?_)
                refine step_store_blk rfl 39 (.tmp 17) (.tmp 116) rfl b8 39 rZ rr rfl rfl (hO4.out.blk HP8.out (by have:=HNE.out;omega)) (by rw [HRZ.out];rfl) (by rw [HRZ.out];exact Tryz.szR) HRO.out ?_
                intro x5 hB5 hO5
                have BX5:=Lh (BX4.out.trans (hO5.out.below H8G.out))
                refine hQ.out _ _ ?_ (fun hH315=>?_)
                · exact BX5.out
                clear hQ K
                try simp only [Act.put,pA9,pZ9,pS9]
                refine tT 16 rfl ?_ ⟨hH315,fun h=>absurd h (by decide)⟩ ?_ ?_
                rotate_left
                · (intro wx hx;go_simp <;> with_reducible rfl)
                try simp only [Act.put,pA9,pZ9,pS9]
                refine wpAnyT_done (by kernel_rfl) ?_ _
                go_wp2_with fail
                go_meet
                case rel=>exact⟨b7,b8,m',rr,rfl,rfl,rfl,Lh (ApS.mk' ((HAI.out.store hO4.out (by simp) H7G.out).store hO5.out (by simp) H8G.out) (fun q hq=>by simp [hq]) (by simp) (by simp) ⟨A',c',HRR.out.symm⟩ HX'.out (by rw [HMC.out];exact hO5.out.blk hB4.out (by have:=HNE.out;omega)) hB5.out H7G.out H8G.out)⟩
            · rw [if_pos (by rfl)]
              go_simp
              obtain⟨x1,ew⟩:∃w6,x0.alloc (.cells rZ 39)=w6:=⟨_,rfl⟩
              have hb:Below x0.heap.size x0 (x0.alloc (.cells rZ 39)):=(Below.refl _ _).alloc (Nat.le_refl _) _
              have hg:=Blk.new x0 39 rZ
              rw [ew] at hb hg
              have ew':x0.alloc (.cells #[.int .i64 0,.int .u64 0,.slice none 0 0,.int .u64 0] 39)=x1:=ew
              rw [ew']
              obtain⟨b8,eb⟩:∃b,x0.heap.size=b:=⟨_,rfl⟩
              have H8G:=Lh (show wz.heap.size≤b8 from by rw [← eb];exact BX0.out.size)
              have BX1:=Lh (BX0.out.trans (hb.mono BX0.out.size))
              rw [eb] at hg ⊢
              have HP8:=Lh hg
              clear hb hg ew ew' eb
              refine hQ.out _ _ ?_ (fun hH1=>?_)
              · exact⟨BX1.out,trivial⟩
              clear hQ K
              try simp only [Act.put,pA9,pZ9,pS9]
              refine wpAnyT_two 7 12 rfl rfl (by kernel_rfl) (fun K hQ=>?_) (fun K hQ=>?_)
              · rw [if_pos (by rfl)]
                go_simp
                (go_at_call 9;refine (HAP.out x1 BX1.out [b8] (fun q hq=>by simp only [List.mem_cons,List.not_mem_nil,or_false] at hq;rcases hq with rfl <;> exact⟨H8G.out,HP8.out.lt⟩)).mono ?_;rintro e x2 ⟨m',A',c',rfl,hin,hx',hb,hoff⟩)
                have BX2:=Lh (BX1.out.trans (hb.mono BX1.out.size))
                have HP8:=Lh (HP8.out.below hb HP8.out.lt)
                have HAI:=Lh (show ApI wz ([b8] ++ G2) m' x2 from ⟨BX2.out,hin,hoff⟩)
                have HX':=Lh hx'
                obtain⟨mcs,emcs⟩:∃mcs,m'.cs=mcs:=⟨_,rfl⟩
                have HMC:=Lh emcs
                have HMZ:=Lh (show mcs.size=14 from by rw [← emcs];rfl)
                have HMO:=Lh (show mcs.toList.all (·.oneCell')=true from by rw [← emcs];rfl)
                rw [emcs]
                obtain⟨rr,err⟩:∃rr,rcs (applyM plF m.x (k+1) cm.x).2 A' c'=rr:=⟨_,rfl⟩
                have HRR:=Lh err
                have HRZ:=Lh (show rr.size=4 from by rw [← err];rfl)
                have HRO:=Lh (show rr.toList.all (·.oneCell')=true from by rw [← err];rfl)
                rw [err]
                clear hb hin hoff hx' emcs err
                refine hQ.out _ _ ?_ (fun hH2=>?_)
                · exact⟨BX2.out,trivial⟩
                clear hQ K
                try simp only [Act.put,pA9,pZ9,pS9]
                refine tS 8 rfl ?_ hH2 ?_ ?_
                rotate_left
                · (intro wx hx;go_simp <;> with_reducible rfl)
                try simp only [Act.put,pA9,pZ9,pS9]
                refine tS 9 rfl ?_ hH2 ?_ ?_
                rotate_left
                · (intro wx hx;go_simp <;> with_reducible rfl)
                try simp only [Act.put,pA9,pZ9,pS9]
                refine tS 10 rfl ?_ hH2 ?_ ?_
                rotate_left
                · (intro wx hx;go_simp <;> with_reducible rfl)
                try simp only [Act.put,pA9,pZ9,pS9]
                refine tS 11 rfl ?_ hH2 ?_ ?_
                rotate_left
                · (intro wx hx;go_simp <;> with_reducible rfl)
                try simp only [Act.put,pA9,pZ9,pS9]
                refine wpAnyT_one 12 rfl (by kernel_rfl) (fun K hQ=>?_)
                rw [if_pos (by rfl)]
                go_simp
                obtain⟨x3,ew⟩:∃w6,x2.alloc (.cells mZ 34)=w6:=⟨_,rfl⟩
                have hb:Below x2.heap.size x2 (x2.alloc (.cells mZ 34)):=(Below.refl _ _).alloc (Nat.le_refl _) _
                have hg:=Blk.new x2 34 mZ
                rw [ew] at hb hg
                have ew':x2.alloc (.cells #[.int .i64 0,.int .i64 0,.int .i64 0,.int .u64 0,.slice none 0 0,.int .u64 0,.slice none 0 0,.slice none 0 0,.slice none 0 0,.slice none 0 0,.slice none 0 0,.slice none 0 0,.slice none 0 0,.int .u64 0] 34)=x3:=ew
                rw [ew']
                obtain⟨b7,eb⟩:∃b,x2.heap.size=b:=⟨_,rfl⟩
                have H7G:=Lh (show wz.heap.size≤b7 from by rw [← eb];exact BX2.out.size)
                have HNE:=Lh (show b8<b7 from by rw [← eb];exact HP8.out.lt)
                have HAI:=Lh (HAI.out.alloc hb (Nat.le_of_eq eb))
                have BX3:=Lh (BX2.out.trans (hb.mono BX2.out.size))
                have HP8:=Lh (HP8.out.below hb HP8.out.lt)
                rw [eb] at hg ⊢
                have HP7:=Lh hg
                clear hb hg ew ew' eb
                refine hQ.out _ _ ?_ (fun hH3=>?_)
                · exact⟨BX3.out,trivial⟩
                clear hQ K
                try simp only [Act.put,pA9,pZ9,pS9]
                refine wpAnyT_one 14 rfl (by kernel_rfl) (fun K hQ=>?_)
                refine step_store_blk rfl 34 (.tmp 16) (.tmp 115) rfl b7 34 mZ mcs rfl rfl HP7.out (by rw [HMZ.out];rfl) (by rw [HMZ.out];exact Tryz.szSt) HMO.out ?_
                intro x4 hB4 hO4
                have BX4:=Lh (BX3.out.trans (hO4.out.below H7G.out))
                refine hQ.out _ _ ?_ (fun hH314=>?_)
                · exact⟨BX4.out,trivial⟩
                clear hQ K
                try simp only [Act.put,pA9,pZ9,pS9]
                refine wpAnyT_last 15 rfl (by kernel_rfl) (by decide) (fun K hQ=>?_)
                refine step_store_blk rfl 39 (.tmp 17) (.tmp 116) rfl b8 39 rZ rr rfl rfl (hO4.out.blk HP8.out (by have:=HNE.out;omega)) (by rw [HRZ.out];rfl) (by rw [HRZ.out];exact Tryz.szR) HRO.out ?_
                intro x5 hB5 hO5
                have BX5:=Lh (BX4.out.trans (hO5.out.below H8G.out))
                refine hQ.out _ _ ?_ (fun hH315=>?_)
                · exact BX5.out
                clear hQ K
                try simp only [Act.put,pA9,pZ9,pS9]
                refine tT 16 rfl ?_ ⟨hH315,fun h=>absurd h (by decide)⟩ ?_ ?_
                rotate_left
                · (intro wx hx;go_simp <;> with_reducible rfl)
                try simp only [Act.put,pA9,pZ9,pS9]
                refine wpAnyT_done (by kernel_rfl) ?_ _
                go_wp2_with fail
                go_meet
                case rel=>exact⟨b7,b8,m',rr,rfl,rfl,rfl,Lh (ApS.mk' ((HAI.out.store hO4.out (by simp) H7G.out).store hO5.out (by simp) H8G.out) (fun q hq=>by simp [hq]) (by simp) (by simp) ⟨A',c',HRR.out.symm⟩ HX'.out (by rw [HMC.out];exact hO5.out.blk hB4.out (by have:=HNE.out;omega)) hB5.out H7G.out H8G.out)⟩
              · rw [if_pos (by rfl)]
                go_simp
                obtain⟨x2,ew⟩:∃w6,x1.alloc (.cells mZ 34)=w6:=⟨_,rfl⟩
                have hb:Below x1.heap.size x1 (x1.alloc (.cells mZ 34)):=(Below.refl _ _).alloc (Nat.le_refl _) _
                have hg:=Blk.new x1 34 mZ
                rw [ew] at hb hg
                have ew':x1.alloc (.cells #[.int .i64 0,.int .i64 0,.int .i64 0,.int .u64 0,.slice none 0 0,.int .u64 0,.slice none 0 0,.slice none 0 0,.slice none 0 0,.slice none 0 0,.slice none 0 0,.slice none 0 0,.slice none 0 0,.int .u64 0] 34)=x2:=ew
                rw [ew']
                obtain⟨b7,eb⟩:∃b,x1.heap.size=b:=⟨_,rfl⟩
                have H7G:=Lh (show wz.heap.size≤b7 from by rw [← eb];exact BX1.out.size)
                have HNE:=Lh (show b8<b7 from by rw [← eb];exact HP8.out.lt)
                have BX2:=Lh (BX1.out.trans (hb.mono BX1.out.size))
                have HP8:=Lh (HP8.out.below hb HP8.out.lt)
                rw [eb] at hg ⊢
                have HP7:=Lh hg
                clear hb hg ew ew' eb
                refine hQ.out _ _ ?_ (fun hH2=>?_)
                · exact⟨BX2.out,trivial⟩
                clear hQ K
                try simp only [Act.put,pA9,pZ9,pS9]
                refine wpAnyT_one 7 rfl (by kernel_rfl) (fun K hQ=>?_)
                rw [if_pos (by rfl)]
                go_simp
                (go_at_call 9;refine (HAP.out x2 BX2.out [b7,b8] (fun q hq=>by simp only [List.mem_cons,List.not_mem_nil,or_false] at hq;rcases hq with rfl | rfl <;> first | exact⟨H7G.out,HP7.out.lt⟩ | exact⟨H8G.out,HP8.out.lt⟩)).mono ?_;rintro e x3 ⟨m',A',c',rfl,hin,hx',hb,hoff⟩)
                have BX3:=Lh (BX2.out.trans (hb.mono BX2.out.size))
                have HP8:=Lh (HP8.out.below hb HP8.out.lt)
                have HP7:=Lh (HP7.out.below hb HP7.out.lt)
                have HAI:=Lh (show ApI wz ([b7,b8] ++ G2) m' x3 from ⟨BX3.out,hin,hoff⟩)
                have HX':=Lh hx'
                obtain⟨mcs,emcs⟩:∃mcs,m'.cs=mcs:=⟨_,rfl⟩
                have HMC:=Lh emcs
                have HMZ:=Lh (show mcs.size=14 from by rw [← emcs];rfl)
                have HMO:=Lh (show mcs.toList.all (·.oneCell')=true from by rw [← emcs];rfl)
                rw [emcs]
                obtain⟨rr,err⟩:∃rr,rcs (applyM plF m.x (k+1) cm.x).2 A' c'=rr:=⟨_,rfl⟩
                have HRR:=Lh err
                have HRZ:=Lh (show rr.size=4 from by rw [← err];rfl)
                have HRO:=Lh (show rr.toList.all (·.oneCell')=true from by rw [← err];rfl)
                rw [err]
                clear hb hin hoff hx' emcs err
                refine hQ.out _ _ ?_ (fun hH3=>?_)
                · exact⟨BX3.out,trivial⟩
                clear hQ K
                try simp only [Act.put,pA9,pZ9,pS9]
                refine tS 8 rfl ?_ hH3 ?_ ?_
                rotate_left
                · (intro wx hx;go_simp <;> with_reducible rfl)
                try simp only [Act.put,pA9,pZ9,pS9]
                refine tS 9 rfl ?_ hH3 ?_ ?_
                rotate_left
                · (intro wx hx;go_simp <;> with_reducible rfl)
                try simp only [Act.put,pA9,pZ9,pS9]
                refine tS 10 rfl ?_ hH3 ?_ ?_
                rotate_left
                · (intro wx hx;go_simp <;> with_reducible rfl)
                try simp only [Act.put,pA9,pZ9,pS9]
                refine tS 11 rfl ?_ hH3 ?_ ?_
                rotate_left
                · (intro wx hx;go_simp <;> with_reducible rfl)
                try simp only [Act.put,pA9,pZ9,pS9]
                refine wpAnyT_one 14 rfl (by kernel_rfl) (fun K hQ=>?_)
                refine step_store_blk rfl 34 (.tmp 16) (.tmp 115) rfl b7 34 mZ mcs rfl rfl HP7.out (by rw [HMZ.out];rfl) (by rw [HMZ.out];exact Tryz.szSt) HMO.out ?_
                intro x4 hB4 hO4
                have BX4:=Lh (BX3.out.trans (hO4.out.below H7G.out))
                refine hQ.out _ _ ?_ (fun hH314=>?_)
                · exact⟨BX4.out,trivial⟩
                clear hQ K
                try simp only [Act.put,pA9,pZ9,pS9]
                refine wpAnyT_last 15 rfl (by kernel_rfl) (by decide) (fun K hQ=>?_)
                refine step_store_blk rfl 39 (.tmp 17) (.tmp 116) rfl b8 39 rZ rr rfl rfl (hO4.out.blk HP8.out (by have:=HNE.out;omega)) (by rw [HRZ.out];rfl) (by rw [HRZ.out];exact Tryz.szR) HRO.out ?_
                intro x5 hB5 hO5
                have BX5:=Lh (BX4.out.trans (hO5.out.below H8G.out))
                refine hQ.out _ _ ?_ (fun hH315=>?_)
                · exact BX5.out
                clear hQ K
                try simp only [Act.put,pA9,pZ9,pS9]
                refine tT 16 rfl ?_ ⟨hH315,fun h=>absurd h (by decide)⟩ ?_ ?_
                rotate_left
                · (intro wx hx;go_simp <;> with_reducible rfl)
                try simp only [Act.put,pA9,pZ9,pS9]
                refine wpAnyT_done (by kernel_rfl) ?_ _
                go_wp2_with fail
                go_meet
                case rel=>exact⟨b7,b8,m',rr,rfl,rfl,rfl,Lh (ApS.mk' ((HAI.out.store hO4.out (by simp) H7G.out).store hO5.out (by simp) H8G.out) (fun q hq=>by simp [hq]) (by simp) (by simp) ⟨A',c',HRR.out.symm⟩ HX'.out (by rw [HMC.out];exact hO5.out.blk hB4.out (by have:=HNE.out;omega)) hB5.out H7G.out H8G.out)⟩
           case rest =>
            obtain⟨b7,b8,m',rr',rfl,rfl,rfl,HS⟩:=hcut
            obtain⟨mcs',emcs'⟩:∃x,m'.cs=x:=⟨_,rfl⟩
            have HMC':=Lh emcs'
            have HMZ':=Lh (show mcs'.size=14 from by rw [← emcs'];rfl)
            have HMO':=Lh (show mcs'.toList.all (·.oneCell')=true from by rw [← emcs'];rfl)
            have HT7':=Lh (show Blk wc b7 34 mcs' from by rw [← emcs'];exact HS.out.t7)
            have HBc:=Lh (HBS.out.below HS.out.in_.bel HBS.out.lt)
            clear emcs'
            go_wp2_with (first
             | (refine wpl_load_blk rfl 34 (.tmp 16) rfl b7 34 mcs' _ rfl HT7'.out Tryz.underlying34 rfl (by rw [HMZ'.out];exact Tryz.szSt) ?_)
             | (refine wpl_store_blk rfl 34 (.tmp 7) (.tmp 120) rfl bs 34 cs mcs' rfl rfl HBc.out (by rw [HCS.out,HMZ'.out]) (by rw [HMZ'.out];exact Tryz.szSt) HMO'.out ?_;intro we hBe hOe))
            have HN:=Lh (RWz.out.next (by omega) HS.out (by rw [HMC'.out];exact hBe.out) hOe.out)
            have HRe:=Lh (hOe.out.blk (HRz.out.below HS.out.in_.bel HRz.out.lt) (by have:=H70.out;omega))
            have HXe:=Lh (hOe.out.blk (HXz.out.below HS.out.in_.bel HXz.out.lt) (by have:=H47.out;omega))
            have HHe:=Lh (show Held c0.x rc2 m'.x.sess from by rw [HS.out.eq];exact HHN.out)
            have HWIe:=Lh (show Wid m'.x from by rw [HS.out.eq];exact RWz.out.run.wid HWIr.out (by omega) HCM.out.ok.sq HCM.out.ok.sm)
            clear hw1
            exact⟨⟨j+1,k+1,m',by omega,by go_num,by rw [HQk.out],by omega,HN,HRe,HXe,HHe,HWIe⟩,by simp [intOf];omega⟩
       · obtain rfl:n2=j:=by omega
         obtain⟨q3,hq3⟩:∃q3,k+1=q3:=⟨_,rfl⟩
         have HQk:=Lh hq3
         have hw1:IntKind.u64.wrap ((k:Int)+1)=(q3:Int):=by rw [IntKind.wrap_u64];omega
         have HAG:=Lh (RW.out.run.again (c:=c0.x) (by rw [EKD.out];exact HK.out) HHEr.out (k+1))
         have hap:=ap_calls RW.out.inn RW.out.run (by omega) RW.out.off RW.out.lt RW.out.bel c0 HC0.out
         obtain⟨p3,ep3⟩:∃p3,applyM plF m.x (k+1) c0.x=p3:=⟨_,rfl⟩
         rw [ep3] at HAG hap
         obtain⟨cs,ecs⟩:∃cs,m.cs=cs:=⟨_,rfl⟩
         have ECM:=Lh ecs
         have HCS:=Lh (show cs.size=14 from by rw [← ecs];rfl)
         have HBS:=Lh (show Blk wr bs 34 cs from by rw [← ecs];exact RW.out.blk)
         have HAP:=Lh (show ∀W,Below wr.heap.size wr W→∀G1:List Nat,(∀q ∈ G1,wr.heap.size≤q∧q<W.heap.size)→Calls Tryz.prog 9 #[.agg cs,.int .u64 (q3:Int),.agg ks] W (RetApp p3 (G1 ++ G2) W) from by rw [← hq3,← ecs,← EKS.out];exact hap)
         clear hap ecs hq3 ep3
         go_upto_region 24 with (first
          | (refine wpl_load_blk rfl 34 (.tmp 7) rfl bs 34 cs _ rfl HBS.out Tryz.underlying34 rfl (by rw [HCS.out];exact Tryz.szSt) ?_)
          | (refine wpl_load_blk rfl 48 (.tmp 4) rfl b4 48 ks _ rfl HXr.out Tryz.underlying48 rfl (by rw [HKS.out];exact Tryz.szCm) ?_)
          | (go_at_call 9;refine (HAP.out wr (Below.refl _ _) [] (fun q hq=>by cases hq)).mono ?_;rintro e w7 ⟨m9,A3,c3,rfl,hin,hx',hb,hoff⟩
             have HB7:=Lh hb
             have HIN9:=Lh hin
             have HOF9:=Lh (show ∀q ∈ G2,m9.All (·.Off q) from hoff)
             have HX9:=Lh hx'
             obtain⟨mcs9,emcs9⟩:∃mcs9,m9.cs=mcs9:=⟨_,rfl⟩
             have HMC9:=Lh emcs9
             have HMZ9:=Lh (show mcs9.size=14 from by rw [← emcs9];rfl)
             have HMO9:=Lh (show mcs9.toList.all (·.oneCell')=true from by rw [← emcs9];rfl)
             rw [emcs9]
             obtain⟨rr9,err9⟩:∃rr9,rcs p3.2 A3 c3=rr9:=⟨_,rfl⟩
             have HRR9:=Lh err9
             have HRZ9:=Lh (show rr9.size=4 from by rw [← err9];rfl)
             have HRO9:=Lh (show rr9.toList.all (·.oneCell')=true from by rw [← err9];rfl)
             rw [err9]
             clear hb hin hoff hx' emcs9 err9)
          | (refine wpl_store_blk rfl 34 (.tmp 19) (.tmp 129) rfl w7.heap.size 34 mZ mcs9 rfl rfl ((Blk.new w7 34 mZ).alloc (.cells rZ 39)) (by rw [HMZ9.out];rfl) (by rw [HMZ9.out];exact Tryz.szSt) HMO9.out ?_;intro w8 hB8 hO8
             have HN20:=Lh (show Blk w8 (w7.heap.size+1) 39 rZ from by
              have h:=Blk.new (w7.alloc (.cells mZ 34)) 39 rZ
              rw [show (w7.alloc (.cells mZ 34)).heap.size=w7.heap.size+1 from by simp] at h
              exact hO8.out.blk h (by omega)))
          | (refine wpl_store_blk rfl 39 (.tmp 20) (.tmp 130) rfl (w7.heap.size+1) 39 rZ rr9 rfl rfl HN20.out (by rw [HRZ9.out];rfl) (by rw [HRZ9.out];exact Tryz.szR) HRO9.out ?_;intro w9 hB9 hO9))
         have HS:=Lh (ap_static HB7.out HIN9.out HOF9.out HX9.out HRR9.out hO8.out (by rw [HMC9.out];exact hB8.out) hO9.out hB9.out)
         have HB9:=Lh HS.out.in_.bel
         obtain⟨b19,e19⟩:∃b19,w7.heap.size=b19:=⟨_,rfl⟩
         rw [e19] at HS ⊢
         have r9:rr9[0]?=some (.int .i64 rc2):=by rw [← HRR9.out,← HAG.out.2];rfl
         have y20:=(HS.out.t8.cell 0).trans r9
         have y10:=((HRr.out.below HB9.out HRr.out.lt).cell 0).trans R20.out
         have q1:(rc2 != rc2)=false:=by simp
         clear e19 r9 hB8 hO8 hB9 hO9 HN20 HAP hw1
         go_upto_region 26 with (fail)
         clear y20 y10 q1
         obtain⟨la,ela⟩:∃la,m.x.last=la:=⟨_,rfl⟩
         obtain⟨lb,elb⟩:∃lb,m9.x.last=lb:=⟨_,rfl⟩
         have y13:w9.cell? ⟨bs,13,none⟩=some (.int .u64 (la:Int)):=((HBS.out.below HB9.out HBS.out.lt).cell 13).trans (by rw [← ECM.out,← ela];rfl)
         have y19:w9.cell? ⟨b19,13,none⟩=some (.int .u64 (lb:Int)):=(HS.out.t7.cell 13).trans (by rw [← elb];rfl)
         have fz:=HS.out.t7.frozen 13
         have ELA:=Lh ela
         have H19:=Lh (show wr.heap.size≤b19 from HS.out.g7)
         have hset:Blk (w9.setCell ⟨b19,13,none⟩ (.int .u64 (la:Int))) b19 34 (m9.setL la).cs:=HS.out.t7.set_ 13 (.int .u64 (la:Int))
         have HON:=Lh (Only.set_ w9 b19 13 (.int .u64 (la:Int)))
         have HSE:=Lh hset
         clear hset ela elb
         go_upto_region 27 with (fail)
         clear y13 y19 fz
         obtain⟨W1,eW1⟩:∃W1,w9.setCell ⟨b19,13,none⟩ (.int .u64 (la:Int))=W1:=⟨_,rfl⟩
         rw [eW1] at HSE HON ⊢
         clear eW1
         have HBW:=Lh (HB9.out.trans (HON.out.below H19.out))
         have HMA:=Lh (metr_of (min_setL (min_store HS.out.in_.inn HON.out (HS.out.in_.off b19 (by simp))) la))
         have HMB:=Lh (metr_of (RW.out.inn.later HBW.out))
         have HBSW:=Lh (HBS.out.below HBW.out HBS.out.lt)
         have hex:m.x=(m9.setL la).x:=by
          show m.x={ m9.x with last:=la }
          rw [HX9.out,HAG.out.1,← ELA.out]
         have HOK:MetOk (m9.setL la).x:=by rw [← hex];exact RW.out.run.ok HWIr.out (by omega) ⟨RW.out.inn.wf.ok,RW.out.inn.wf.ik⟩
         have HSM:=Lh (same_meta (m9.setL la) W1 HMA m hex HMB HOK)
         obtain⟨lcs,elcs⟩:∃x,(m9.setL la).cs=x:=⟨_,rfl⟩
         have HLZ:=Lh (show lcs.size=14 from by rw [← elcs];rfl)
         rw [elcs] at HSE HSM
         rw [ECM.out] at HSM
         clear elcs hex HOK
         go_wp2_with (first
          | (refine wpl_load_blk rfl 34 (.tmp 19) rfl b19 34 lcs _ rfl HSE.out Tryz.underlying34 rfl (by rw [HLZ.out];exact Tryz.szSt) ?_)
          | (refine wpl_load_blk rfl 34 (.tmp 7) rfl bs 34 cs _ rfl HBSW.out Tryz.underlying34 rfl (by rw [HCS.out];exact Tryz.szSt) ?_)
          | (go_at_call 11;refine HSM.out.mono ?_;rintro e wA ⟨rfl,hbA⟩;have HBA:=Lh hbA;clear hbA)
          | (go_at_call 7;refine (HHD.out wA).mono ?_;rintro e wB ⟨rfl,hbB⟩;have HBB:=Lh hbB;clear hbB))
         go_ret
         exact⟨rfl,RW.out.bel.trans ((HBW.out.trans ((HBA.out.trans (HBB.out.mono HBA.out.size)).mono HBW.out.size)).mono RW.out.bel.size)⟩
theorem walk_MetaOnce {H:Type} {enc:TypeId×Value→H} (W:World) {base:Nat} (v0:Value) (d0:DataW H) (p0:List MemPlace) (h0:DataW.Trod enc Tryz.prog W 0 (fun _=>true) true 22 v0 d0 p0) (k0:Value.okWide Tryz.prog W .any base 22 v0) (v1:Value) (d1:DataW H) (p1:List MemPlace) (h1:DataW.Trod enc Tryz.prog W 0 (fun _=>true) true 48 v1 d1 p1) (k1:Value.okWide Tryz.prog W .any base 48 v1) (v2:Value) (d2:DataW H) (p2:List MemPlace) (h2:DataW.Trod enc Tryz.prog W 0 (fun _=>true) true 22 v2 d2 p2) (k2:Value.okWide Tryz.prog W .any base 22 v2) :
 Calls Tryz.prog 5 #[v0,v1,v2] W fun e W'=>e = .returned (.bool true)∧Below W.heap.size W W':=by
 obtain⟨A0,n0,c0,rfl⟩:=Go.WideShapes.okWide_slice Tryz.underlying22 k0
 obtain⟨f0,g0⟩:=h0
 have hv0:(Value.slice A0 n0 c0).cells.toList=[.slice A0 n0 c0]:=rfl
 rw [hv0] at g0
 obtain⟨A,n,cap,es0,e,hr0,hl0,he0,hc0,hm0⟩:=open_cms g0
 injection e with e1 e2 e3
 subst e1 e2 e3
 obtain⟨A2,n2,c2,rfl⟩:=Go.WideShapes.okWide_slice Tryz.underlying22 k2
 obtain⟨f2,g2⟩:=h2
 have hv2:(Value.slice A2 n2 c2).cells.toList=[.slice A2 n2 c2]:=rfl
 rw [hv2] at g2
 obtain⟨A,n,cap,es2,e,hr2,hl2,he2,hc2,hm2⟩:=open_cms g2
 injection e with e1 e2 e3
 subst e1 e2 e3
 obtain⟨cs1,rfl,s1⟩:=Go.WideShapes.okWide_struct Tryz.underlying48 k1
 obtain⟨f1,g1⟩:=h1
 have hv1:(Value.agg cs1).cells.toList=cs1.toList:=rfl
 rw [hv1] at g1
 obtain⟨y,ey,hy⟩:=open_cmd1 g1
 obtain rfl:cs1=cmdCs y.x y.A y.c:=by
  have h:cs1.toList=(cmdCs y.x y.A y.c).toList:=ey
  cases cs1
  exact congrArg List.toArray h
 exact once_any A0 n0 c0 es0 y A2 n2 c2 es2 W (Lh hr0) (Lh hl0) (Lh he0) (Lh hy) (Lh hr2) (Lh hl2) (Lh he2) (Nat.le_trans hc0 hm0) (Nat.le_trans hc2 hm2)
namespace metaOnce
open Go.ChangeShapes Go.WideShapes Go.ChangeAt Go.RowKit
open Go.ChangeMaps (open_string shut_string)
theorem own:ownKnob Tryz.prog.godebug=none:=by kernel_rfl
theorem laidOut:laidOutB Tryz.prog=true:=by kernel_rfl
theorem contract (H:Type) (enc:TypeId×Value→H) (W:World) (base:Nat) (args:Array Value) (ds gs:List (DataW H)) (before:List MemPlace)
 (hval0:∀ (j:Nat) t v,Tryz.f5.params[j]?=some t→args[j]?=some v→Value.okWide Tryz.prog W .any base t v)
 (hW:DataW.Whole enc Tryz.prog Tryz.f5.params.toList Rows.metaOnceSpec.vars false W args.toList ds gs before) :
 Calls Tryz.prog 5 args W fun e W'=>∃v,e = .returned v∧Rows.metaOnceSpec.post enc Tryz.prog Tryz.f5 false true false false W args v W':=by
 have hval:∀ (j:Nat) t v,Tryz.f5.params[j]?=some t→args[j]?=some v→Value.okWide Tryz.prog W .any base t v:=hval0
 have hW':=hW
 obtain⟨p,q,hA0,hV,rfl,hfz,hnd⟩:=hW
 have hA:DataW.TrodAll enc Tryz.prog W 0 (fun _=>true) true Tryz.f5.params.toList args.toList ds p:=hA0
 rw [Tryz.params5] at hA hval
 obtain⟨v0,vs0,d0,ds0,p0,q0,hargs,rfl,rfl,h0,r0⟩:=trodAll_cons hA
 obtain⟨v1,vs1,d1,ds1,p1,q1,rfl,rfl,rfl,h1,r1⟩:=trodAll_cons r0
 obtain⟨v2,vs2,d2,ds2,p2,q2,rfl,rfl,rfl,h2,r2⟩:=trodAll_cons r1
 obtain⟨rfl,rfl,rfl⟩:=trodAll_nil r2
 obtain rfl:args=#[v0,v1,v2]:=by cases args;simp_all
 obtain⟨rfl,rfl⟩:=trodVars_none hV
 have k0:=h0
 have lt0:∀x ∈ p0,x.block<W.heap.size:=by obtain⟨m,hm⟩:=k0;exact DataW.trod_lt m _ _ _ hm
 have k1:=h1
 have lt1:∀x ∈ p1,x.block<W.heap.size:=by obtain⟨m,hm⟩:=k1;exact DataW.trod_lt m _ _ _ hm
 have k2:=h2
 have lt2:∀x ∈ p2,x.block<W.heap.size:=by obtain⟨m,hm⟩:=k2;exact DataW.trod_lt m _ _ _ hm
 clear hA0 hval0
 refine (walk_MetaOnce W v0 d0 p0 h0 (hval 0 22 v0 rfl rfl) v1 d1 p1 h1 (hval 1 48 v1 rfl rfl) v2 d2 p2 h2 (hval 2 22 v2 rfl rfl)).mono fun e W' ⟨he,bel⟩=>?_
 subst he
 exact⟨_,rfl,_,_,_,[],_,[],hW',trodAll_mk1 (shut_bool Tryz.underlying4 _),(trodAll_cons_mk (Below.trod laidOut (by kernel_rfl) (of_decide_eq_true (by kernel_rfl)) k0 bel lt0) (trodAll_cons_mk (Below.trod laidOut (by kernel_rfl) (of_decide_eq_true (by kernel_rfl)) k1 bel lt1) (trodAll_cons_mk (Below.trod laidOut (by kernel_rfl) (of_decide_eq_true (by kernel_rfl)) k2 bel lt2) trodAll_mk0))),rfl,bel.frame _,fun h=>by cases h⟩
theorem lifted (os:Os) (started:os.Started) (H:Type) (enc:TypeId×Value→H) :
 ReturnsInHanded {} Tryz.checked os 5 .any (Rows.metaOnceSpec.pre6 enc Tryz.prog Tryz.f5 Rows.metaOnceRow.domain false) (Rows.metaOnceSpec.post enc Tryz.prog Tryz.f5 false true false false):=by
 refine returnsInHanded_of_change (C:=Tryz.checked) own started (by kernel_rfl) Tryz.func5
  (ChangeSpec.witness6 (enc:=enc) (C:=Tryz.checked) false ⟨#[],#[.slice none 0 0,.agg #[.int .i64 0,.int .u64 0,.int .u64 0,.string ⟨#[]⟩,.int .i64 0,.int .u32 0,.int .u64 0,.int .u64 0,.int .i64 0,.int .i64 0,.bool false,.int .u64 0,.int .i64 0,.int .u64 0,.int .u64 0,.slice none 0 0],.slice none 0 0],[]⟩ 8 (by kernel_rfl) (by kernel_rfl) (by kernel_rfl) (by kernel_rfl)) ?_
 intro W base args ds gs before hval hW _ _
 exact contract H enc W base args ds gs before hval hW
theorem over:Rows.metaOnceRow.holds Tryz.pinned (OpenSpec.ofChange Rows.metaOnceSpec) :=
 OpenClaim.holds_of_wide 5 Tryz.f5 rfl rfl rfl rfl rfl rfl rfl ⟨rfl,rfl,rfl,rfl,rfl⟩ rfl rfl rfl rfl rfl (by kernel_rfl) Tryz.func5 (by kernel_rfl)
  (of_decide_eq_true (by kernel_rfl)) (by unfold Func.isWrapper;first | (rw [if_pos (by decide +kernel)];kernel_rfl) | (rw [if_neg (by decide +kernel)];exact⟨rfl,rfl⟩))
  (fun os started H enc _=>lifted os started H enc)
theorem proved:Rows.MetaOnceSaid:=over
end metaOnce
end Go.Proofs.YtdoneomahlfkbaaGreat
