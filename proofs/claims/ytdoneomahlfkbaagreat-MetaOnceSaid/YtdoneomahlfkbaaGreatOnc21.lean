/- STATES THAT MAY BE: what is told of a state's maps. (printed by gen_mek3.py); STATES THAT MAY BE: an object that fits. (printed by gen_mek4.py); STATE -/
import Derived.Test.YtdoneomahlfkbaaGreatOnc20
set_option linter.unusedVariables false
set_option linter.unusedSimpArgs false
set_option maxRecDepth 100000
set_option maxHeartbeats 8000000
namespace Go.Proofs.YtdoneomahlfkbaaGreat
section
open Go.RowKit OctMath StrMath PlMath
structure MSt (m:MM):Prop where
 may:MayM plF m.x
 m64:M64 m.x.mem
 n64:M64 m.x.nem
theorem maps_true (m:MM) (w:World) (hI:Hid (MIn m w)) (hS:Hid (MSt m)) :
 Calls Tryz.prog 34 #[.agg m.cs] w fun e w'=>e = .returned (.bool true)∧Below w.heap.size w w':=by
 have HMV:=Lh (fun W=>moving_any m W)
 have HP1:=Lh (fun W (h:Below w.heap.size w W)=>mapped_any m m.x.mep m.MA m.x.mem.length m.mc m.x.mem W (Lh (hI.out.later h).rows.map) hS.out.m64)
 have HP2:=Lh (fun W (h:Below w.heap.size w W)=>mapped_any m m.x.nep m.NA m.x.nem.length m.nc m.x.nem W (Lh (hI.out.later h).rows.next) hS.out.n64)
 rw [show plF.okM m.x.n (m.x.mep,m.x.mem)=true from hS.out.may.map] at HP1
 rw [show plF.okM m.x.n (m.x.nep,m.x.nem)=true from hS.out.may.next] at HP2
 unfold mapV at HP1 HP2
 have HRS:=Lh (fun W (h:Below w.heap.size w W)=>rsI64 m.CA m.x.cut.length m.cc m.x.cut W (Lh (hI.out.later h).rows.cut.rd) (Lh rfl) (by have:=hI.out.wf.cl;omega) (Lh hS.out.may.cut))
 obtain⟨cs,ecs⟩:∃cs,m.cs=cs:=⟨_,rfl⟩
 have V0:=Lh (show cs[0]?=some (.int .i64 m.x.k) from by rw [← ecs];rfl)
 have V1:=Lh (show cs[1]?=some (.int .i64 m.x.n) from by rw [← ecs];rfl)
 have V2:=Lh (show cs[2]?=some (.int .i64 m.x.groups) from by rw [← ecs];rfl)
 have V3:=Lh (show cs[3]?=some (.int .u64 (m.x.mep:Int)) from by rw [← ecs];rfl)
 have V4:=Lh (show cs[4]?=some (.slice m.MA m.x.mem.length m.mc) from by rw [← ecs];rfl)
 have V5:=Lh (show cs[5]?=some (.int .u64 (m.x.nep:Int)) from by rw [← ecs];rfl)
 have V6:=Lh (show cs[6]?=some (.slice m.NA m.x.nem.length m.nc) from by rw [← ecs];rfl)
 have V7:=Lh (show cs[7]?=some (.slice m.CA m.x.cut.length m.cc) from by rw [← ecs];rfl)
 have HCS:=Lh (show cs.size=14 from by rw [← ecs];rfl)
 have HCO:=Lh (show cs.toList.all (·.oneCell')=true from by rw [← ecs];rfl)
 rw [ecs] at HMV HP1 HP2
 rw [ecs]
 clear ecs
 obtain⟨h11,h12,h13⟩:=hS.out.may.k
 obtain⟨h21,h22⟩:=hS.out.may.gs
 have d1:decide (m.x.k<1)=false:=decide_eq_false (by omega)
 have d2:decide (m.x.k>m.x.n)=false:=decide_eq_false (by omega)
 have d2':decide (m.x.n<m.x.k)=false:=decide_eq_false (by omega)
 have d3:decide (m.x.n>32)=false:=decide_eq_false (by omega)
 have d3':decide (32<m.x.n)=false:=decide_eq_false (by omega)
 have d4:decide (m.x.groups<1)=false:=decide_eq_false (by omega)
 have d5:decide (m.x.groups>64)=false:=decide_eq_false (by omega)
 have d5':decide (64<m.x.groups)=false:=decide_eq_false (by omega)
 clear h11 h12 h13
 go_enter Tryz.func34,Tryz.ntmps34
 go_upto_region 1 with (fail)
 have hB:=Blk.new w 34 cs
 have hb0:Below w.heap.size w (w.alloc (.cells cs 34)):=(Below.refl _ _).alloc (Nat.le_refl _) _
 obtain⟨w1,ew1⟩:∃w1,w.alloc (.cells cs 34)=w1:=⟨_,rfl⟩
 rw [ew1] at hB hb0 ⊢
 have HB:=Lh hB
 have HB0:=Lh hb0
 clear ew1 hB hb0
 obtain⟨b0,e0⟩:∃b0,w.heap.size=b0:=⟨_,rfl⟩
 rw [e0] at HB ⊢
 have HC:=Lh (fun W (h:Below w1.heap.size w1 W)=>HB.out.below h HB.out.lt)
 have HMAP:=Lh (fun W (h:Below w1.heap.size w1 W)=>show ∀j v,[Value.int .u64 (m.x.mep:Int),.slice m.MA m.x.mem.length m.mc][j]?=some v→W.cell? ((⟨b0,3,none⟩:Addr).add j)=some v from fun j v hj=>by
  match j,hj with
  | 0,hj=>rw [← Option.some.inj hj];exact ((HC.out W h).cell 3).trans V3.out
  | 1,hj=>rw [← Option.some.inj hj];exact ((HC.out W h).cell 4).trans V4.out)
 have HNXT:=Lh (fun W (h:Below w1.heap.size w1 W)=>show ∀j v,[Value.int .u64 (m.x.nep:Int),.slice m.NA m.x.nem.length m.nc][j]?=some v→W.cell? ((⟨b0,5,none⟩:Addr).add j)=some v from fun j v hj=>by
  match j,hj with
  | 0,hj=>rw [← Option.some.inj hj];exact ((HC.out W h).cell 5).trans V5.out
  | 1,hj=>rw [← Option.some.inj hj];exact ((HC.out W h).cell 6).trans V6.out)
 have k0:=(HB.out.cell 0).trans V0.out
 have k1:=(HB.out.cell 1).trans V1.out
 have k2:=(HB.out.cell 2).trans V2.out
 have B11:=Lh (Below.refl w1.heap.size w1)
 have tk1:True:=trivial
 go_upto_region 3 with (first
  | (refine wplW (by rfl) (wp_load_blkW 34 (.tmp 1) rfl b0 34 cs _ rfl (by first | exact HC.out w1 B11.out | exact HC.out w2 B12.out) Tryz.underlying34 rfl (by rw [HCS.out];exact Tryz.szSt) ?_))
  | (refine wplW (by rfl) (wp_load_at 27 (.tmp 30) rfl ⟨b0,3,none⟩ [Value.int .u64 (m.x.mep:Int),.slice m.MA m.x.mem.length m.mc] _ rfl (by first | exact HMAP.out w1 B11.out) Tryz.underlying27 rfl rfl ?_))
  | (refine wplW (by rfl) (wp_load_at 27 (.tmp 37) rfl ⟨b0,5,none⟩ [Value.int .u64 (m.x.nep:Int),.slice m.NA m.x.nem.length m.nc] _ rfl (by first | exact HNXT.out w2 B12.out) Tryz.underlying27 rfl rfl ?_))
  | (have _t:=tk1;go_at_call 62;refine (HP1.out w1 HB0.out).mono ?_;rintro e w2 ⟨rfl,hb2⟩;have B12:=Lh hb2;clear hb2 tk1 _t)
  | (go_at_call 62;refine (HP2.out w2 (HB0.out.trans (B12.out.mono HB0.out.size))).mono ?_;rintro e w3 ⟨rfl,hb3⟩;have B13:=Lh (B12.out.trans (hb3.mono B12.out.size));clear hb3))
 obtain⟨gs,egs⟩:∃gs,m.x.groups=gs:=⟨_,rfl⟩
 obtain⟨n,en⟩:∃n,m.x.cut.length=n:=⟨_,rfl⟩
 have EN:=Lh en
 have EGS:=Lh egs
 have hgl:(n:Int)<gs:=by rw [← en,← egs];exact hS.out.may.cutL
 have c7:w3.cell? ⟨b0,7,none⟩=some (.slice m.CA n m.cc):=((HC.out w3 B13.out).cell 7).trans (by rw [V7.out,en])
 have c2:w3.cell? ⟨b0,2,none⟩=some (.int .i64 gs):=((HC.out w3 B13.out).cell 2).trans (by rw [V2.out,egs])
 have hn9:n≤16777216:=by rw [← en];exact hI.out.wf.cl
 rw [en] at HRS
 have HRD:=Lh (show Reads w w.heap.size 1 m.CA n (m.x.cut.map iv) from by have hr:=hI.out.rows.cut.rd;unfold MM.cut at hr;rw [en,flat_i1] at hr;exact hr)
 clear d1 d2 d2' d3 d3' d4 d5 d5' k0 k1 k2 en egs
 have B03:=Lh (HB0.out.trans (B13.out.mono HB0.out.size))
 have g1:decide ((n:Int)≥gs)=false:=decide_eq_false (by omega)
 have g1':decide (gs≤(n:Int))=false:=decide_eq_false (by omega)
 have HEQ:=Lh (show m.x.moving=false→(n=0∧m.x.nem=m.x.mem) from fun h=>by
  have h1:m.x.nep=m.x.mep:=by unfold MetT.moving at h;simpa using h
  have h2:=hS.out.may.mv
  rw [if_pos h1] at h2
  exact⟨by rw [← EN.out,h2.2];rfl,h2.1.symm⟩)
 have HNE:=Lh (show m.x.moving=true→m.x.nep=(m.x.mep+1) % 18446744073709551616 from fun h=>by
  have h1:¬m.x.nep=m.x.mep:=by unfold MetT.moving at h;simpa using h
  have h2:=hS.out.may.mv
  rw [if_neg h1] at h2
  exact h2)
 by_cases hn0:n=0
 · have f1:decide ((n:Int)>0)=false:=decide_eq_false (by omega)
   have f1':decide (0<(n:Int))=false:=decide_eq_false (by omega)
   have f1n:decide (0<n)=false:=decide_eq_false (by omega)
   clear hn0
   refine wp_region_class (fun w'=>Hid (Below w3.heap.size w3 w'∧w'.cell? ⟨b0,7,none⟩=some (.slice m.CA n m.cc)∧w'.cell? ⟨b0,2,none⟩=some (.int .i64 gs))) (by kernel_rfl) (by kernel_rfl) (Lh ⟨(Below.refl _ _).drew,c7,c2⟩) ?_
   repeat (first
    | go_big_quiet_skip
    | (go_big_quiet_want;go_big_quiet_op;first
        | go_big_quiet_on
        | (refine⟨_,fun _ _=>rfl,?_⟩;go_big_quiet_on)
        | (refine⟨.slice m.CA n m.cc,fun w' hw'=>?_,?_⟩
           · simp [hw'.out.2.1]
             done
           go_big_quiet_on)
        | (refine⟨.int .i64 gs,fun w' hw'=>?_,?_⟩
           · simp [hw'.out.2.2]
             done
           go_big_quiet_on)
        | (refine⟨.bool true,fun w' hw'=>?_,?_⟩
           · go_at_call 45
             exact (HRS.out w' (B03.out.trans (hw'.out.1.mono B03.out.size))).mono (fun e w'' h=>⟨h.1,Lh ⟨hw'.out.1.trans (h.2.mono hw'.out.1.size),cell_later h.2 hw'.out.2.1,cell_later h.2 hw'.out.2.2⟩⟩)
           go_big_quiet_on)))
   refine wpQuiet_nil ?_
   intro w4 hw4
   have B14:=Lh (B13.out.trans (hw4.out.1.mono B13.out.size))
   clear hw4
   cases hmv:m.x.moving with
   | true =>
     rw [hmv] at HMV
     have hq:=HNE.out hmv
     have q1:((m.x.nep:Int) == IntKind.u64.wrap ((m.x.mep:Int)+1))=true:=by
      rw [IntKind.wrap_u64,beq_iff_eq]
      omega
     clear hq
     go_wp2_with (first
      | (refine wplW (by rfl) (wp_load_blkW 34 (.tmp 1) rfl b0 34 cs _ rfl (HC.out w4 B14.out) Tryz.underlying34 rfl (by rw [HCS.out];exact Tryz.szSt) ?_))
      | (go_at_call 61;refine (HMV.out w4).mono ?_;rintro e w5 ⟨rfl,hb5⟩;have B15:=Lh (B14.out.trans (hb5.mono B14.out.size));have k5:=((HC.out w5 B15.out).cell 5).trans V5.out;have k3:=((HC.out w5 B15.out).cell 3).trans V3.out;clear hb5))
     go_ret
     exact⟨rfl,HB0.out.trans (B15.out.mono HB0.out.size)⟩
   | false =>
     rw [hmv] at HMV
     obtain⟨hz,hnm⟩:=HEQ.out hmv
     have z1:((n:Int) == 0)=true:=by rw [hz];rfl
     have z2:decide ((n:Int)=0)=true:=by rw [hz];rfl
     have V6':=Lh (show cs[6]?=some (.slice m.NA m.x.mem.length m.nc) from by rw [V6.out,hnm])
     have HEM:=Lh (fun W (h:Below w.heap.size w W)=>eqMem m.MA m.NA m.x.mem.length m.mc m.nc m.x.mem W (Lh (hI.out.later h).rows.map.rd) (Lh (by have hr:=(hI.out.later h).rows.next.rd;unfold MM.next at hr;rw [hnm] at hr;exact hr)) rfl (by have:=hI.out.rows.map.nc;have:=hI.out.rows.map.cm;unfold MM.map at this;unfold maxLen at this;have h9:=hI.out.rows.map.nc;unfold MM.map at h9;simp only at this h9;omega))
     clear hnm hz V6
     obtain⟨nm,enm⟩:∃nm,m.x.mem.length=nm:=⟨_,rfl⟩
     rw [enm] at V6' V4 HEM
     clear enm
     go_wp2_with (first
      | (refine wplW (by rfl) (wp_load_blkW 34 (.tmp 1) rfl b0 34 cs _ rfl (HC.out w4 B14.out) Tryz.underlying34 rfl (by rw [HCS.out];exact Tryz.szSt) ?_))
      | (go_at_call 61;refine (HMV.out w4).mono ?_;rintro e w5 ⟨rfl,hb5⟩;have B15:=Lh (B14.out.trans (hb5.mono B14.out.size));have k4:=((HC.out w5 B15.out).cell 4).trans V4.out;have k6:=((HC.out w5 B15.out).cell 6).trans V6'.out;clear hb5)
      | (go_at_call 78;refine (HEM.out w5 (HB0.out.trans (B15.out.mono HB0.out.size))).mono ?_;rintro e w6 ⟨rfl,hb6⟩;have B16:=Lh (B15.out.trans (hb6.mono B15.out.size));have k7:=((HC.out w6 B16.out).cell 7).trans (V7.out.trans (by rw [EN.out]));clear hb6))
     go_ret
     exact⟨rfl,HB0.out.trans (B16.out.mono HB0.out.size)⟩
 · have f1:decide ((n:Int)>0)=true:=decide_eq_true (by omega)
   have f1':decide (0<(n:Int))=true:=decide_eq_true (by omega)
   have f1n:decide (0<n)=true:=decide_eq_true (by omega)
   have hnp:0<n:=by omega
   clear hn0
   obtain⟨p,hp⟩:∃p,p+1=n:=⟨n - 1,by omega⟩
   have hpn:p<n:=by omega
   have hw:IntKind.i64.wrap ((n:Int) - 1)=(p:Int):=by rw [IntKind.wrap_i64];omega
   obtain⟨ad,ead,hadb,q0⟩:=reads_int (HRD.out.later B03.out) hnp
   obtain⟨ad',ead',_,ql⟩:=reads_int (HRD.out.later B03.out) hpn
   rw [ead] at ead'
   injection ead' with ead'
   subst ead'
   obtain⟨x0,e0x⟩:∃x,m.x.cut.getD 0 0=x:=⟨_,rfl⟩
   obtain⟨xl,elx⟩:∃x,m.x.cut.getD p 0=x:=⟨_,rfl⟩
   rw [e0x] at q0
   rw [elx] at ql
   have hmem:∀i,i<n→m.x.cut.getD i 0 ∈ m.x.cut:=fun i hi=>by
    have:=EN.out
    rw [List.getD_eq_getElem?_getD,List.getElem?_eq_getElem (by omega)]
    exact List.getElem_mem _
   have r0:=hS.out.may.cutR _ (hmem 0 hnp)
   have rl:=hS.out.may.cutR _ (hmem p hpn)
   rw [e0x] at r0
   rw [elx,EGS.out] at rl
   have x1:decide (x0<0)=false:=decide_eq_false (by omega)
   have x2:decide (xl≥gs)=false:=decide_eq_false (by omega)
   have x2':decide (gs≤xl)=false:=decide_eq_false (by omega)
   rw [ead] at c7
   have HRS:Hid (∀W,Below w.heap.size w W→Calls Tryz.prog 45 #[.slice (some ad) n m.cc,.func (.func 46) #[] #[]] W fun e w'=>e = .returned (.bool true)∧Below W.heap.size W w'):=by rw [← ead];exact HRS
   clear hmem r0 rl e0x elx hp hadb
   refine wp_region_class (fun w'=>Hid (Below w3.heap.size w3 w'∧w'.cell? ⟨b0,7,none⟩=some (.slice (some ad) n m.cc)∧w'.cell? ⟨b0,2,none⟩=some (.int .i64 gs)∧w'.cell? (ad.add 0)=some (.int .i64 x0)∧w'.cell? (ad.add p)=some (.int .i64 xl))) (by kernel_rfl) (by kernel_rfl) (Lh ⟨(Below.refl _ _).drew,c7,c2,q0,ql⟩) ?_
   repeat (first
    | go_big_quiet_skip
    | (go_big_quiet_want;go_big_quiet_op;first
        | go_big_quiet_on
        | (refine⟨_,fun _ _=>rfl,?_⟩;go_big_quiet_on)
        | (refine⟨.slice (some ad) n m.cc,fun w' hw'=>?_,?_⟩
           · simp [hw'.out.2.1]
             done
           go_big_quiet_on)
        | (refine⟨.int .i64 gs,fun w' hw'=>?_,?_⟩
           · simp [hw'.out.2.2.1]
             done
           go_big_quiet_on)
        | (refine⟨.int .i64 x0,fun w' hw'=>?_,?_⟩
           · simp [hw'.out.2.2.2.1]
             done
           go_big_quiet_on)
        | (refine⟨.int .i64 xl,fun w' hw'=>?_,?_⟩
           · simp [hw'.out.2.2.2.2]
             done
           go_big_quiet_on)
        | (refine⟨.bool true,fun w' hw'=>?_,?_⟩
           · go_at_call 45
             exact (HRS.out w' (B03.out.trans (hw'.out.1.mono B03.out.size))).mono (fun e w'' h=>⟨h.1,Lh ⟨hw'.out.1.trans (h.2.mono hw'.out.1.size),cell_later h.2 hw'.out.2.1,cell_later h.2 hw'.out.2.2.1,cell_later h.2 hw'.out.2.2.2.1,cell_later h.2 hw'.out.2.2.2.2⟩⟩)
           go_big_quiet_on)))
   refine wpQuiet_nil ?_
   intro w4 hw4
   have B14:=Lh (B13.out.trans (hw4.out.1.mono B13.out.size))
   clear hw4
   cases hmv:m.x.moving with
   | true =>
     rw [hmv] at HMV
     have hq:=HNE.out hmv
     have q1:((m.x.nep:Int) == IntKind.u64.wrap ((m.x.mep:Int)+1))=true:=by
      rw [IntKind.wrap_u64,beq_iff_eq]
      omega
     clear hq
     go_wp2_with (first
      | (refine wplW (by rfl) (wp_load_blkW 34 (.tmp 1) rfl b0 34 cs _ rfl (HC.out w4 B14.out) Tryz.underlying34 rfl (by rw [HCS.out];exact Tryz.szSt) ?_))
      | (go_at_call 61;refine (HMV.out w4).mono ?_;rintro e w5 ⟨rfl,hb5⟩;have B15:=Lh (B14.out.trans (hb5.mono B14.out.size));have k5:=((HC.out w5 B15.out).cell 5).trans V5.out;have k3:=((HC.out w5 B15.out).cell 3).trans V3.out;clear hb5))
     go_ret
     exact⟨rfl,HB0.out.trans (B15.out.mono HB0.out.size)⟩
   | false =>
     rw [hmv] at HMV
     obtain⟨hz,hnm⟩:=HEQ.out hmv
     have z1:((n:Int) == 0)=true:=by rw [hz];rfl
     have z2:decide ((n:Int)=0)=true:=by rw [hz];rfl
     have V6':=Lh (show cs[6]?=some (.slice m.NA m.x.mem.length m.nc) from by rw [V6.out,hnm])
     have HEM:=Lh (fun W (h:Below w.heap.size w W)=>eqMem m.MA m.NA m.x.mem.length m.mc m.nc m.x.mem W (Lh (hI.out.later h).rows.map.rd) (Lh (by have hr:=(hI.out.later h).rows.next.rd;unfold MM.next at hr;rw [hnm] at hr;exact hr)) rfl (by have:=hI.out.rows.map.nc;have:=hI.out.rows.map.cm;unfold MM.map at this;unfold maxLen at this;have h9:=hI.out.rows.map.nc;unfold MM.map at h9;simp only at this h9;omega))
     clear hnm hz V6
     obtain⟨nm,enm⟩:∃nm,m.x.mem.length=nm:=⟨_,rfl⟩
     rw [enm] at V6' V4 HEM
     clear enm
     go_wp2_with (first
      | (refine wplW (by rfl) (wp_load_blkW 34 (.tmp 1) rfl b0 34 cs _ rfl (HC.out w4 B14.out) Tryz.underlying34 rfl (by rw [HCS.out];exact Tryz.szSt) ?_))
      | (go_at_call 61;refine (HMV.out w4).mono ?_;rintro e w5 ⟨rfl,hb5⟩;have B15:=Lh (B14.out.trans (hb5.mono B14.out.size));have k4:=((HC.out w5 B15.out).cell 4).trans V4.out;have k6:=((HC.out w5 B15.out).cell 6).trans V6'.out;clear hb5)
      | (go_at_call 78;refine (HEM.out w5 (HB0.out.trans (B15.out.mono HB0.out.size))).mono ?_;rintro e w6 ⟨rfl,hb6⟩;have B16:=Lh (B15.out.trans (hb6.mono B15.out.size));have k7:=((HC.out w6 B16.out).cell 7).trans (V7.out.trans (by rw [EN.out]));clear hb6))
     go_ret
     exact⟨rfl,HB0.out.trans (B16.out.mono HB0.out.size)⟩
end
section
open Go.RowKit OctMath StrMath PlMath
theorem Tryz.szMp:(Tryz.prog.info? 27).map (·.size)=some 2:=by kernel_rfl
theorem blk_at2 {w:World} {b o:Nat} {t:TypeId} {cs:Array Value} {u v:Value} (h:Blk w b t cs) (h1:cs[o]?=some u) (h2:cs[o+1]?=some v):∀j x,[u,v][j]?=some x→w.cell? ((⟨b,o,none⟩:Addr).add j)=some x:=fun j x hj=>by
 match j,hj with
 | 0,hj=>rw [← Option.some.inj hj];exact (h.cell o).trans h1
 | 1,hj=>rw [← Option.some.inj hj];exact (h.cell (o+1)).trans h2
theorem fits_true (m:MM) (o:OM) (w:World) (hI:Hid (MIn m w)) (hS:Hid (MSt m)) (hr:Hid ((oRow o).In w)) (hf:Hid (FitM plF m.x o.x)) :
 Calls Tryz.prog 47 #[.agg m.cs,.agg (oA o)] w fun e w'=>e = .returned (.bool true)∧Below w.heap.size w w':=by
 obtain⟨s,es⟩:∃s,strOf o.x.key=s:=⟨_,rfl⟩
 obtain⟨vi,evi⟩:∃x:Int,(o.x.version:Int)=x:=⟨_,rfl⟩
 obtain⟨ei,eei⟩:∃x:Int,(o.x.epoch:Int)=x:=⟨_,rfl⟩
 obtain⟨mi,emi⟩:∃x:Int,(m.x.mep:Int)=x:=⟨_,rfl⟩
 obtain⟨ni,eni⟩:∃x:Int,(m.x.nep:Int)=x:=⟨_,rfl⟩
 obtain⟨la,ela⟩:∃x:Int,(m.x.last:Int)=x:=⟨_,rfl⟩
 obtain⟨gr,egr⟩:∃x,o.x.group=x:=⟨_,rfl⟩
 obtain⟨n,en⟩:∃x,m.x.n=x:=⟨_,rfl⟩
 obtain⟨gs,egs⟩:∃x,m.x.groups=x:=⟨_,rfl⟩
 obtain⟨nl,enl⟩:∃x,o.x.nodes.length=x:=⟨_,rfl⟩
 have hgp:=hf.out.grp
 have q1:(s.toList == [])=false:=by rw [← es,strOf_nil];exact decide_eq_false hf.out.key
 have hsz:s.size=o.x.key.length:=by rw [← es];exact strOf_len _
 have hkl:=hf.out.keyL
 have q2:decide ((s.size:Int)>64)=false:=decide_eq_false (by omega)
 have q2':decide (64<(s.size:Int))=false:=decide_eq_false (by omega)
 have q2n:decide (64<s.size)=false:=decide_eq_false (by omega)
 have hv:=hf.out.ver
 have hl:=hf.out.last
 have q3:(vi == 0)=false:=by rw [beq_eq_false_iff_ne];omega
 have q3':decide (vi=0)=false:=decide_eq_false (by omega)
 have q4:decide (vi>la)=false:=decide_eq_false (by omega)
 have q4':decide (la<vi)=false:=decide_eq_false (by omega)
 have hz:=hf.out.size
 have q5:decide (o.x.size<0)=false:=decide_eq_false (by omega)
 have q6:decide (o.x.size>65536)=false:=decide_eq_false (by omega)
 have q6':decide (65536<o.x.size)=false:=decide_eq_false (by omega)
 have q7:(gr != gr)=false:=by simp
 have HGR:=Lh (fun W=>group_any s gs W (by rw [hsz];unfold maxLen;omega))
 have hg1:(groupN s gs).1=gr:=by rw [← es,← egs,← egr];exact hgp.symm
 obtain⟨ge,ege⟩:∃x,(groupN s gs).2=x:=⟨_,rfl⟩
 rw [hg1,ege] at HGR
 have HRO:=Lh (show Reads w w.heap.size 1 o.A nl (o.x.nodes.map iv) from by have h:=hr.out.rd;unfold oRow at h;rw [← enl];exact h)
 have hnl:nl≤9223372036854775807:=by have h1:=hr.out.nc;have h2:=hr.out.cm;unfold oRow at h1 h2;simp only at h1 h2;unfold maxLen at h2;omega
 have HNA:=Lh (fun W (h:Below w.heap.size w W)=>nodes_any m.x.mep m.MA m.x.mem.length m.mc m.x.mem gr n W (Lh (hI.out.later h).rows.map.rd) hS.out.m64 hI.out.rows.map.nc hI.out.rows.map.cm)
 have HNB:=Lh (fun W (h:Below w.heap.size w W)=>nodes_any m.x.nep m.NA m.x.nem.length m.nc m.x.nem gr n W (Lh (hI.out.later h).rows.next.rd) hS.out.n64 hI.out.rows.next.nc hI.out.rows.next.cm)
 unfold mapV at HNA HNB
 rw [emi] at HNA
 rw [eni] at HNB
 have HLA:=Lh (show o.x.epoch=m.x.mep→(nodesR m.x.mem gr n).1=o.x.nodes from fun h=>by
  rw [hf.out.nodes,egr,en]
  unfold MetT.of
  rw [if_pos h]
  rfl)
 have HLB:=Lh (show ¬o.x.epoch=m.x.mep→(nodesR m.x.nem gr n).1=o.x.nodes∧ei=ni from fun h=>by
  have h1:=hf.out.nodes
  have h2:=hf.out.ep
  unfold MetT.of at h1 h2
  rw [if_neg h] at h1 h2
  refine⟨by rw [h1,egr,en];rfl,?_⟩
  rw [← eei,← eni,h2]
  rfl)
 have HEI:=Lh (And.intro eei emi)
 obtain⟨cs,ecs⟩:∃cs,m.cs=cs:=⟨_,rfl⟩
 have V1:=Lh (show cs[1]?=some (.int .i64 n) from by rw [← ecs,← en];rfl)
 have V2:=Lh (show cs[2]?=some (.int .i64 gs) from by rw [← ecs,← egs];rfl)
 have V3:=Lh (show cs[3]?=some (.int .u64 mi) from by rw [← ecs,← emi];rfl)
 have V4:=Lh (show cs[4]?=some (.slice m.MA m.x.mem.length m.mc) from by rw [← ecs];rfl)
 have V5:=Lh (show cs[5]?=some (.int .u64 ni) from by rw [← ecs,← eni];rfl)
 have V6:=Lh (show cs[6]?=some (.slice m.NA m.x.nem.length m.nc) from by rw [← ecs];rfl)
 have V13:=Lh (show cs[13]?=some (.int .u64 la) from by rw [← ecs,← ela];rfl)
 have HCS:=Lh (show cs.size=14 from by rw [← ecs];rfl)
 have HCO:=Lh (show cs.toList.all (·.oneCell')=true from by rw [← ecs];rfl)
 rw [ecs]
 clear ecs
 obtain⟨os,eos⟩:∃os,oA o=os:=⟨_,rfl⟩
 have U0:=Lh (show os[0]?=some (.string s) from by rw [← eos,← es];rfl)
 have U1:=Lh (show os[1]?=some (.int .u64 vi) from by rw [← eos,← evi];rfl)
 have U2:=Lh (show os[2]?=some (.int .i64 o.x.size) from by rw [← eos];rfl)
 have U3:=Lh (show os[3]?=some (.int .u32 (o.x.sum:Int)) from by rw [← eos];rfl)
 have U4:=Lh (show os[4]?=some (.int .i64 gr) from by rw [← eos,← egr];rfl)
 have U5:=Lh (show os[5]?=some (.int .u64 ei) from by rw [← eos,← eei];rfl)
 have U6:=Lh (show os[6]?=some (.slice o.A nl o.c) from by rw [← eos,← enl];rfl)
 have HOS:=Lh (show os.size=7 from by rw [← eos];rfl)
 have HOO:=Lh (show os.toList.all (·.oneCell')=true from by rw [← eos];rfl)
 rw [eos]
 clear eos es evi eei emi eni ela egr en egs hgp hkl hv hl hz hg1 ege hsz
 go_enter Tryz.func47,Tryz.ntmps47
 go_upto_region 1 with (fail)
 have hB:=(Blk.new w 34 cs).alloc (.cells os 58)
 have hC:=Blk.new (w.alloc (.cells cs 34)) 58 os
 rw [show (w.alloc (.cells cs 34)).heap.size=w.heap.size+1 from by simp] at hC
 have hb0:Below w.heap.size w ((w.alloc (.cells cs 34)).alloc (.cells os 58)):=((Below.refl _ _).alloc (Nat.le_refl _) _).alloc (by simp) _
 obtain⟨w1,ew1⟩:∃w1,(w.alloc (.cells cs 34)).alloc (.cells os 58)=w1:=⟨_,rfl⟩
 rw [ew1] at hB hC hb0 ⊢
 have HB:=Lh hB
 have HC:=Lh hC
 have HB0:=Lh hb0
 clear ew1 hB hC hb0
 obtain⟨b0,e0⟩:∃b0,w.heap.size=b0:=⟨_,rfl⟩
 have E0:=Lh e0
 rw [e0] at HB HC ⊢
 clear e0
 have k0:=(HC.out.cell 0).trans U0.out
 have k2:=(HB.out.cell 2).trans V2.out
 go_upto_region 5 with (first
  | (go_at_call 51;refine (HGR.out w1).mono ?_;rintro e w2 ⟨rfl,hb2⟩;have B12:=Lh hb2;have HB2:=Lh (HB.out.below hb2 HB.out.lt);have HC2:=Lh (HC.out.below hb2 HC.out.lt);clear hb2 k0 k2;have k0:=(HC2.out.cell 0).trans U0.out;have k1:=(HC2.out.cell 1).trans U1.out;have k2:=(HC2.out.cell 2).trans U2.out;have k4:=(HC2.out.cell 4).trans U4.out;have k13:=(HB2.out.cell 13).trans V13.out)
  | (refine wplW (by rfl) (wp_load_at 27 (.tmp 55) rfl ⟨b0,5,none⟩ [Value.int .u64 ni,.slice m.NA m.x.nem.length m.nc] _ rfl (by first | exact blk_at2 HB2.out V5.out V6.out) Tryz.underlying27 rfl rfl ?_))
  | (refine wpl_store_blk rfl 27 (.tmp 7) (.tmp 56) rfl w2.heap.size 27 #[.int .u64 0,.slice none 0 0] #[.int .u64 ni,.slice m.NA m.x.nem.length m.nc] rfl rfl (Blk.new w2 _ _) rfl Tryz.szMp rfl ?_;intro w3 hB3 hO3;have HT3:=hB3;have B23:=Lh (show Below w2.heap.size w2 w3 from ((Below.refl _ _).alloc (Nat.le_refl _) _).trans (hO3.out.below (Nat.le_refl _)));clear hB3 hO3))
 have HB3:=Lh (HB2.out.below B23.out HB2.out.lt)
 have HC3:=Lh (HC2.out.below B23.out HC2.out.lt)
 have B13:=Lh (B12.out.trans (B23.out.mono B12.out.size))
 obtain⟨b7,e7⟩:∃b7,w2.heap.size=b7:=⟨_,rfl⟩
 have H7:=Lh (show w1.heap.size≤b7 from by rw [← e7];exact B12.out.size)
 have H7b:=Lh (show b0+1<b7 from by rw [← e7];exact HC2.out.lt)
 have HNL:=Lh enl
 rw [e7] at HT3 ⊢
 clear e7 enl k0 k1 k2 k4 k13 HB2 HC2 B23 q1 q2 q2' q2n q3 q3' q4 q4' q5 q6 q6' q7
 have k5:=(HC3.out.cell 5).trans U5.out
 have k3:=(HB3.out.cell 3).trans V3.out
 by_cases hep:o.x.epoch=m.x.mep
 · have hx:ei=mi:=by rw [← HEI.out.1,← HEI.out.2,hep]
   have hls:=HLA.out hep
   subst hx
   clear hep
   have q1:(ei == ei)=true:=by simp
   go_upto_region 7 with (first
    | (refine wplW (by rfl) (wp_load_at 27 (.tmp 63) rfl ⟨b0,3,none⟩ [Value.int .u64 ei,.slice m.MA m.x.mem.length m.mc] _ rfl (by first | exact blk_at2 HB3.out V3.out V4.out) Tryz.underlying27 rfl rfl ?_))
    | (refine wpl_store_blk rfl 27 (.tmp 7) (.tmp 64) rfl b7 27 #[.int .u64 ni,.slice m.NA m.x.nem.length m.nc] #[.int .u64 ei,.slice m.MA m.x.mem.length m.mc] rfl rfl HT3.out rfl Tryz.szMp rfl ?_;intro w4 hB4 hO4))
   have HT4:=hB4
   have B14:=Lh (B13.out.trans (hO4.out.below H7.out))
   have HB4:=Lh (hO4.out.blk HB3.out (by have:=H7b.out;omega))
   have HC4:=Lh (hO4.out.blk HC3.out (by have:=H7b.out;omega))
   clear hB4 hO4 k3 k5 q1
   have q1:(ei == ei)=true:=by simp
   have k1:=(HB4.out.cell 1).trans V1.out
   go_wp2_with (first
    | (refine wpl_load_blk rfl 27 (.tmp 7) rfl b7 27 #[.int .u64 ei,.slice m.MA m.x.mem.length m.mc] _ rfl HT4.out Tryz.underlying27 rfl Tryz.szMp ?_)
    | (go_at_call 83;refine (HNA.out w4 (HB0.out.trans (B14.out.mono HB0.out.size))).mono ?_;rintro e w5 ⟨v5,rfl,ho5,hb5⟩;have B15:=Lh (B14.out.trans (hb5.mono B14.out.size));have HT5:=Lh (HT4.out.below hb5 HT4.out.lt);rw [hls,HNL.out] at ho5;obtain⟨A5,c5,rfl,_,_⟩:=own_slice ho5;have HO5:=Lh (rowIn_own ho5).1;have HC5:=Lh (HC4.out.below hb5 HC4.out.lt);have y5:=(HC5.out.cell 5).trans U5.out;have y6:=(HC5.out.cell 6).trans U6.out;have y0:w5.cell? ⟨b7,0,none⟩=some (.int .u64 ei):=HT5.out.cell 0;clear hb5 ho5)
    | (go_at_call 84;refine (eqI A5 o.A nl c5 o.c o.x.nodes w5 (Lh HO5.out.rd) (Lh (HRO.out.later (HB0.out.trans (B15.out.mono HB0.out.size)))) HNL.out hnl).mono ?_;rintro e w6 ⟨rfl,hb6⟩;have B16:=Lh (B15.out.trans (hb6.mono B15.out.size));clear hb6))
   go_ret
   exact⟨rfl,HB0.out.trans (B16.out.mono HB0.out.size)⟩
 · obtain⟨hls,hx⟩:=HLB.out hep
   have hne:ni≠mi:=by rw [← hx,← HEI.out.1,← HEI.out.2];omega
   subst hx
   clear hep
   have q1:(ei == mi)=false:=by simpa using hne
   have q2:(ei == ei)=true:=by simp
   clear hne
   go_upto_region 7 with (fail)
   clear k3 k5 q1
   have k1:=(HB3.out.cell 1).trans V1.out
   go_wp2_with (first
    | (refine wpl_load_blk rfl 27 (.tmp 7) rfl b7 27 #[.int .u64 ei,.slice m.NA m.x.nem.length m.nc] _ rfl HT3.out Tryz.underlying27 rfl Tryz.szMp ?_)
    | (go_at_call 83;refine (HNB.out w3 (HB0.out.trans (B13.out.mono HB0.out.size))).mono ?_;rintro e w5 ⟨v5,rfl,ho5,hb5⟩;have B15:=Lh (B13.out.trans (hb5.mono B13.out.size));have HT5:=Lh (HT3.out.below hb5 HT3.out.lt);rw [hls,HNL.out] at ho5;obtain⟨A5,c5,rfl,_,_⟩:=own_slice ho5;have HO5:=Lh (rowIn_own ho5).1;have HC5:=Lh (HC3.out.below hb5 HC3.out.lt);have y5:=(HC5.out.cell 5).trans U5.out;have y6:=(HC5.out.cell 6).trans U6.out;have y0:w5.cell? ⟨b7,0,none⟩=some (.int .u64 ei):=HT5.out.cell 0;clear hb5 ho5)
    | (go_at_call 84;refine (eqI A5 o.A nl c5 o.c o.x.nodes w5 (Lh HO5.out.rd) (Lh (HRO.out.later (HB0.out.trans (B15.out.mono HB0.out.size)))) HNL.out hnl).mono ?_;rintro e w6 ⟨rfl,hb6⟩;have B16:=Lh (B15.out.trans (hb6.mono B15.out.size));clear hb6))
   go_ret
   exact⟨rfl,HB0.out.trans (B16.out.mono HB0.out.size)⟩
end
section
open Go.RowKit OctMath StrMath PlMath
def sZ:Array Value:=#[.int .u64 0,.int .u64 0,.bool false,.int .u64 0,.int .i64 0]
theorem Tryz.szSs:(Tryz.prog.info? 92).map (·.size)=some 5:=by kernel_rfl
theorem ses_int {m:MM} {w:World} (hI:MIn m w) (hM:MayM plF m.x) {s:SesT} (hs:s ∈ m.x.sess) (ho:s.opn=true) :
 ∃y,bsB (fL (cmpItt s.version) m.is) m.is.length=true∧m.is[bsP (fL (cmpItt s.version) m.is) m.is.length]?=some y∧y.x.client=s.client∧y.x.seq=s.seq:=by
 obtain⟨x,hx,e1,e2,e3⟩:=hM.sesO s hs ho
 have hf:findR natO verI s.version m.x.ints=some x:=(find_some hM.ints).2 ⟨hx,e1⟩
 rcases find_mm (o:=natO) (key:=verI) hI.is hM.ints s.version with ⟨h1,y,h2,h3⟩ | ⟨_,h3⟩
 · rw [hf] at h3
   injection h3 with h3
   exact⟨y,h1,h2,by rw [← h3];exact e2,by rw [← h3];exact e3⟩
 · rw [hf] at h3
   cases h3
theorem sessions_true (m:MM) (w:World) (hI:Hid (MIn m w)) (hS:Hid (MSt m)) :
 Calls Tryz.prog 48 #[.agg m.cs] w fun e w'=>e = .returned (.bool true)∧Below w.heap.size w w':=by
 obtain⟨ns,ens⟩:∃x,m.x.sess.length=x:=⟨_,rfl⟩
 obtain⟨ni,eni⟩:∃x,m.x.ints.length=x:=⟨_,rfl⟩
 obtain⟨SA,eSA⟩:∃x,m.SA=x:=⟨_,rfl⟩
 obtain⟨IA,eIA⟩:∃x,m.IA=x:=⟨_,rfl⟩
 have hns:ns≤16777216:=by rw [← ens];exact hI.out.wf.sl
 have hni:ni≤16777216:=by rw [← eni];exact hI.out.wf.il
 have HLS:=Lh ens
 have HLI:=Lh (show m.is.length=ni from by rw [← eni];exact hI.out.ilen)
 have HRS:=Lh (show Reads w w.heap.size 5 SA ns (m.x.sess.flatMap sesL) from by have:=hI.out.rows.sess.rd;unfold MM.sess at this;rw [ens,eSA] at this;exact this)
 have HRI:=Lh (show Reads w w.heap.size 9 IA ni (m.is.flatMap imCs) from by have:=hI.out.rows.ints.rd;unfold MM.ints at this;rw [eni,eIA] at this;exact this)
 have HSN:=Lh (show (m.x.sess.filter (·.opn)).length=ni from by rw [← eni];exact hS.out.may.sesN)
 obtain⟨cs,ecs⟩:∃cs,m.cs=cs:=⟨_,rfl⟩
 have V9:=Lh (show cs[9]?=some (.slice IA ni m.ic) from by rw [← ecs,← eIA,← eni];rfl)
 have V10:=Lh (show cs[10]?=some (.slice SA ns m.sc) from by rw [← ecs,← eSA,← ens];rfl)
 have HCS:=Lh (show cs.size=14 from by rw [← ecs];rfl)
 have HCO:=Lh (show cs.toList.all (·.oneCell')=true from by rw [← ecs];rfl)
 rw [ecs]
 clear ecs eSA eIA ens eni
 go_enter Tryz.func48,Tryz.ntmps48
 go_upto_region 1 with (fail)
 have hB:=Blk.new w 34 cs
 have hb0:Below w.heap.size w (w.alloc (.cells cs 34)):=(Below.refl _ _).alloc (Nat.le_refl _) _
 obtain⟨w1,ew1⟩:∃w1,w.alloc (.cells cs 34)=w1:=⟨_,rfl⟩
 rw [ew1] at hB hb0 ⊢
 have HB:=Lh hB
 have HB0:=Lh hb0
 clear ew1 hB hb0
 obtain⟨b0,e0⟩:∃b0,w.heap.size=b0:=⟨_,rfl⟩
 have E0:=Lh e0
 rw [e0] at HB ⊢
 clear e0
 have k10:=(HB.out.cell 10).trans V10.out
 go_wp2_with fail
 clear k10
 go_loopw [3,11] (fun vo vi wr=>∃k c:Nat,k≤ns∧c≤k∧vi = .int .i64 k∧vo = .int .i64 c∧Hid (((m.x.sess.take k).filter (·.opn)).length=c)∧Hid (Below w1.heap.size w1 wr)) (fun _ vi _=>ns - (intOf vi).toNat)
 case atStart=>exact⟨0,0,by omega,by omega,rfl,rfl,Lh rfl,Lh (Below.refl _ _)⟩
 case round =>
  obtain⟨k,c,hk,hck,rfl,rfl,HC,HBk⟩:=hrel
  by_cases hlt:k<ns
  · have hmsl:k<m.x.sess.length:=by have:=HLS.out;omega
    have HB0k:=Lh (HB0.out.trans (HBk.out.mono HB0.out.size))
    obtain⟨ad,rfl,hadb,hcell⟩:=elem_cells (cells:=sesL) (K:=5) (fun _=>rfl) (HRS.out.later HB0k.out) hmsl (by omega)
    have hmem:m.x.sess[k] ∈ m.x.sess:=List.getElem_mem hmsl
    have htk:m.x.sess.take (k+1)=m.x.sess.take k ++ [m.x.sess[k]]:=List.take_succ_eq_append_getElem hmsl
    obtain⟨s,es⟩:∃s,m.x.sess[k]=s:=⟨_,rfl⟩
    rw [es] at hcell hmem htk
    have hsr:=hS.out.may.sesR s hmem
    have HC1:=Lh hcell
    have HME:=Lh hmem
    have HTK:=Lh htk
    obtain⟨ss,ess⟩:∃ss,sesCs s=ss:=⟨_,rfl⟩
    obtain⟨ci,eci⟩:∃x:Int,(s.client:Int)=x:=⟨_,rfl⟩
    obtain⟨qi,eqi⟩:∃x:Int,(s.seq:Int)=x:=⟨_,rfl⟩
    obtain⟨op,eop⟩:∃x,s.opn=x:=⟨_,rfl⟩
    have W0:=Lh (show ss[0]?=some (.int .u64 ci) from by rw [← ess,← eci];rfl)
    have W1:=Lh (show ss[1]?=some (.int .u64 qi) from by rw [← ess,← eqi];rfl)
    have W2:=Lh (show ss[2]?=some (.bool op) from by rw [← ess,← eop];rfl)
    have W3:=Lh (show ss[3]?=some (.int .u64 (s.version:Int)) from by rw [← ess];rfl)
    have d1:decide (ci<1)=false:=decide_eq_false (by omega)
    have d2:decide (ci>64)=false:=decide_eq_false (by omega)
    have d2':decide (64<ci)=false:=decide_eq_false (by omega)
    have d3:(qi == 0)=false:=by rw [beq_eq_false_iff_ne];omega
    have d3':decide (qi=0)=false:=decide_eq_false (by omega)
    have HCI:=Lh (And.intro eci eqi)
    have HOP:=Lh eop
    have HSO:=Lh (show ss.toList.all (·.oneCell')=true from by rw [← ess];rfl)
    have HSZ:=Lh (show ss.size=5 from by rw [← ess];rfl)
    have HC1:Hid (∀j v,ss.toList[j]?=some v→wr.cell? ((ad.add (k*5)).add j)=some v):=by rw [← ess];exact HC1
    clear hsr hmsl hadb es hcell hmem htk eci eqi eop ess
    obtain⟨b5,e5⟩:∃b5,wr.heap.size=b5:=⟨_,rfl⟩
    have E5:=Lh e5
    clear e5
    go_upto_region 7 with (first
     | (refine wpl_load_at rfl 92 (.tmp 13) rfl (ad.add (k*5)) ss.toList _ rfl HC1.out Tryz.underlying92 rfl (by rw [Array.length_toList,HSZ.out];exact Tryz.szSs) ?_)
     | (refine wpl_store_blk rfl 92 (.tmp 5) (.tmp 14) rfl wr.heap.size 92 sZ ss rfl rfl (Blk.new wr _ _) (by rw [HSZ.out];rfl) (by rw [HSZ.out];exact Tryz.szSs) HSO.out ?_;intro w4 hB4 hO4;have HT4:=Lh (show Blk w4 b5 92 ss from by rw [← E5.out];exact hB4.out);have HB4:=Lh (show Below wr.heap.size wr w4 from ((Below.refl _ _).alloc (Nat.le_refl _) _).trans (hO4.out.below (Nat.le_refl _)));have y0:=(HT4.out.cell 0).trans W0.out;have y1:=(HT4.out.cell 1).trans W1.out;have y2:=(HT4.out.cell 2).trans W2.out;rw [E5.out];clear hB4 hO4))
    have HB14:=Lh (HBk.out.trans (HB4.out.mono HBk.out.size))
    clear d1 d2 d2' d3 d3' y0 y1 HC1
    cases op with
    | false =>
      go_wp2
      refine⟨⟨k+1,c,by omega,by omega,by go_num,rfl,Lh ?_,HB14⟩,by simp [intOf];omega⟩
      rw [HTK.out,List.filter_append,List.length_append,HC.out,List.filter_cons,HOP.out]
      rfl
    | true =>
      obtain⟨y,hfb,hfp,hy1,hy2⟩:=ses_int hI.out hS.out.may HME.out HOP.out
      have HFW:=Lh (fun W kb h1 h2=>findItt IA ni m.ic m.is kb s.version W h1 (Lh HLI.out) (by omega) h2 (Lh fun _ _=>trivial) trivial)
      rw [← HLI.out] at HFW
      obtain⟨p,ep⟩:∃p,bsP (fL (cmpItt s.version) m.is) m.is.length=p:=⟨_,rfl⟩
      rw [hfb,ep] at HFW
      rw [ep] at hfp
      rw [HLI.out] at HFW
      have HFP:=Lh hfp
      have HY:=Lh (And.intro hy1 hy2)
      clear hfb ep hfp hy1 hy2
      go_upto_region 9 with (fail)
      have HC4:=Lh (HB.out.below HB14.out HB.out.lt)
      refine wp_region_late (S0:=fun w'=>w'.cell? ⟨b0,9,none⟩=some (.slice IA ni m.ic)∧w'.cell? ⟨b5,3,none⟩=some (.int .u64 (s.version:Int))) (S:=fun _=>True) 10 11 (by kernel_rfl) rfl ⟨⟨(HC4.out.cell 9).trans V9.out,(HT4.out.cell 3).trans W3.out⟩,trivial⟩ (fun wd hwd hH=>?_)
      have DW:=Lh (show Below w4.heap.size w4 wd from by rw [hwd];exact (Below.refl _ _).drew)
      clear hwd y2
      refine tS 0 rfl ?_ hH ?_ ?_
      rotate_left
      · (intro wx hx;obtain⟨_,_⟩:=hx;go_simp <;> with_reducible rfl)
      try simp only [Act.put,pA9,pZ9,pS9]
      refine tS 1 rfl ?_ hH ?_ ?_
      rotate_left
      · (intro wx hx;obtain⟨_,_⟩:=hx;go_simp <;> with_reducible rfl)
      try simp only [Act.put,pA9,pZ9,pS9]
      refine tS 2 rfl ?_ hH ?_ ?_
      rotate_left
      · (intro wx hx;obtain⟨_,_⟩:=hx;go_simp <;> with_reducible rfl)
      try simp only [Act.put,pA9,pZ9,pS9]
      refine tS 3 rfl ?_ hH ?_ ?_
      rotate_left
      · (intro wx hx;obtain⟨_,_⟩:=hx;go_simp <;> with_reducible rfl)
      try simp only [Act.put,pA9,pZ9,pS9]
      refine wpAnyT_one 4 rfl (by kernel_rfl) (fun K hQ=>?_)
      go_simp
      (go_at_call 57;refine (mkItt s.version _).mono ?_;rintro e w8 ⟨rfl,hc8,hb8⟩)
      have HC8:=Lh hc8
      have HB8:=Lh hb8
      clear hc8 hb8
      refine hQ.out _ _ ?_ (fun hH4=>?_)
      · exact⟨⟨((HC4.out.below (DW.out.trans (HB8.out.mono DW.out.size)) HC4.out.lt).cell 9).trans V9.out,((HT4.out.below (DW.out.trans (HB8.out.mono DW.out.size)) HT4.out.lt).cell 3).trans W3.out⟩,trivial⟩
      clear hQ K
      try simp only [Act.put,pA9,pZ9,pS9]
      refine wpAnyT_one 5 rfl (by kernel_rfl) (fun K hQ=>?_)
      go_simp
      (go_at_call 85;refine (HFW.out _ wd.heap.size (Lh (HRI.out.later (HB0.out.trans ((HB14.out.trans ((DW.out.trans (HB8.out.mono DW.out.size)).mono HB14.out.size)).mono HB0.out.size)))) HC8).mono ?_;rintro e w9 ⟨rfl,hb9⟩)
      have HB89:=Lh (HB8.out.trans (hb9.mono HB8.out.size))
      have HB9:=Lh (DW.out.trans (HB89.out.mono DW.out.size))
      clear hb9
      refine hQ.out _ _ ?_ (fun hH5=>?_)
      · exact⟨⟨((HC4.out.below (DW.out.trans (HB89.out.mono DW.out.size)) HC4.out.lt).cell 9).trans V9.out,((HT4.out.below (DW.out.trans (HB89.out.mono DW.out.size)) HT4.out.lt).cell 3).trans W3.out⟩,trivial⟩
      clear hQ K
      try simp only [Act.put,pA9,pZ9,pS9]
      refine tS 6 rfl ?_ hH5 ?_ ?_
      rotate_left
      · (intro wx hx;obtain⟨_,_⟩:=hx;go_simp <;> with_reducible rfl)
      try simp only [Act.put,pA9,pZ9,pS9]
      refine tS 7 rfl ?_ hH5 ?_ ?_
      rotate_left
      · (intro wx hx;obtain⟨_,_⟩:=hx;go_simp <;> with_reducible rfl)
      try simp only [Act.put,pA9,pZ9,pS9]
      refine tS 8 rfl ?_ hH5 ?_ ?_
      rotate_left
      · (intro wx hx;obtain⟨_,_⟩:=hx;go_simp <;> with_reducible rfl)
      try simp only [Act.put,pA9,pZ9,pS9]
      refine tS 9 rfl ?_ hH5 ?_ ?_
      rotate_left
      · (intro wx hx;obtain⟨_,_⟩:=hx;go_simp <;> with_reducible rfl)
      try simp only [Act.put,pA9,pZ9,pS9]
      refine wpAnyT_last 10 rfl (by kernel_rfl) (by decide) (fun K hQ=>?_)
      go_simp
      refine hQ.out _ _ ?_ (fun hH10=>?_)
      · exact hH5.1
      clear hQ K
      try simp only [Act.put,pA9,pZ9,pS9]
      refine wpAnyT_done (by kernel_rfl) ?_ _
      have HB15:=Lh (HB14.out.trans (HB9.out.mono HB14.out.size))
      have HT5:=Lh (HT4.out.below HB9.out HT4.out.lt)
      have HC5:=Lh (HC4.out.below HB9.out HC4.out.lt)
      clear hH hH4 hH5 hH10
      have hpl:p<m.is.length:=(List.getElem?_eq_some_iff.1 HFP.out).1
      have hpn:p<ni:=by rw [← HLI.out];exact hpl
      have epy:m.is[p]=y:=(List.getElem?_eq_some_iff.1 HFP.out).2
      obtain⟨ai,eai,haib,hic⟩:=elem_cells (cells:=imCs) (K:=9) (fun _=>rfl) (HRI.out.later (HB0.out.trans (HB15.out.mono HB0.out.size))) hpl (by omega)
      rw [epy] at hic
      have r9:=(HC5.out.cell 9).trans V9.out
      rw [eai] at r9
      have r7:w9.cell? ((ai.add (p*9)).add 7)=some (.int .u64 ci):=by rw [← HCI.out.1,← HY.out.1];exact hic 7 _ rfl
      have r8:w9.cell? ((ai.add (p*9)).add 8)=some (.int .u64 qi):=by rw [← HCI.out.2,← HY.out.2];exact hic 8 _ rfl
      have s0:=(HT5.out.cell 0).trans W0.out
      have s1:=(HT5.out.cell 1).trans W1.out
      have d0:decide ((p:Int)<0)=false:=decide_eq_false (by omega)
      have q1:(ci != ci)=false:=by simp
      have q2:(qi != qi)=false:=by simp
      clear hic epy hpl haib eai
      go_upto_region 10 with (fail)
      refine wp_region_class (fun w'=>Hid (Below w9.heap.size w9 w'∧w'.cell? ⟨b0,9,none⟩=some (.slice (some ai) ni m.ic)∧w'.cell? ((ai.add (p*9)).add 7)=some (.int .u64 ci)∧w'.cell? ((ai.add (p*9)).add 8)=some (.int .u64 qi)∧w'.cell? ⟨b5,0,none⟩=some (.int .u64 ci)∧w'.cell? ⟨b5,1,none⟩=some (.int .u64 qi))) (by kernel_rfl) (by kernel_rfl) (Lh ⟨(Below.refl _ _).drew,r9,r7,r8,s0,s1⟩) ?_
      repeat (first
       | go_big_quiet_skip
       | (go_big_quiet_want;go_big_quiet_op;first
           | go_big_quiet_on
           | (refine⟨_,fun _ _=>rfl,?_⟩;go_big_quiet_on)
           | (refine⟨.slice (some ai) ni m.ic,fun w' hw'=>?_,?_⟩
              · simp [hw'.out.2.1]
                done
              go_big_quiet_on)
           | (refine⟨.int .u64 ci,fun w' hw'=>?_,?_⟩
              · first
                 | (simp [hw'.out.2.2.1]
                    done)
                 | (simp [hw'.out.2.2.2.2.1]
                    done)
              go_big_quiet_on)
           | (refine⟨.int .u64 qi,fun w' hw'=>?_,?_⟩
              · first
                 | (simp [hw'.out.2.2.2.1]
                    done)
                 | (simp [hw'.out.2.2.2.2.2]
                    done)
              go_big_quiet_on)))
      refine wpQuiet_nil ?_
      intro w6 hw6
      have HB16:=Lh (HB15.out.trans (hw6.out.1.mono HB15.out.size))
      clear hw6 r9 r7 r8 s0 s1
      go_wp2
      refine⟨⟨k+1,c+1,by omega,by omega,by go_num,by go_num,Lh ?_,HB16⟩,by simp [intOf];omega⟩
      rw [HTK.out,List.filter_append,List.length_append,HC.out,List.filter_cons,HOP.out]
      rfl
  · obtain rfl:k=ns:=by omega
    have hcn:c=ni:=by
     have h:=HC.out
     rw [List.take_of_length_le (by rw [HLS.out];exact Nat.le_refl _),HSN.out] at h
     exact h.symm
    have z1:((c:Int) == (ni:Int))=true:=by rw [hcn];exact beq_self_eq_true _
    have k9:=((HB.out.below HBk.out HB.out.lt).cell 9).trans V9.out
    clear hcn
    go_wp2
    go_ret
    exact⟨rfl,HB0.out.trans (HBk.out.mono HB0.out.size)⟩
end
end Go.Proofs.YtdoneomahlfkbaaGreat
