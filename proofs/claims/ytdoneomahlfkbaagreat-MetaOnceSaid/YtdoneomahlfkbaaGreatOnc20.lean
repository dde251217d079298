/- ROWS THAT RISE: that they do is what the program answers. (printed by gen_mek1.py); STATES THAT MAY BE: rows that are equal; what is told of a state's -/
import Derived.Test.YtdoneomahlfkbaaGreatOnc19
set_option linter.unusedVariables false
set_option linter.unusedSimpArgs false
set_option maxRecDepth 100000
set_option maxHeartbeats 4000000
namespace Go.Proofs.YtdoneomahlfkbaaGreat
section
open Go.RowKit OctMath StrMath PlMath
theorem cmpV_lt (g:Bool):cmpV true g = -1:=rfl
theorem hw2Obj (a b:OM) (w:World) (ha:Byt a.x.key) (hb:Byt b.x.key) (h:ltB a.x.key b.x.key=true) :
 Calls Tryz.prog 36 #[.agg (oA a),.agg (oA b)] w fun e w'=>e = .returned (.int .i64 (-1))∧Below w.heap.size w w':=by
 have HL:=Lh h
 clear h
 obtain⟨as_,eas⟩:∃as_,oA a=as_:=⟨_,rfl⟩
 obtain⟨bs_,ebs⟩:∃bs_,oA b=bs_:=⟨_,rfl⟩
 have VA:=Lh (show as_[0]?=some (.string (strOf a.x.key)) from by rw [← eas];rfl)
 have VB:=Lh (show bs_[0]?=some (.string (strOf b.x.key)) from by rw [← ebs];rfl)
 have HA:=Lh (show as_.size=7 from by rw [← eas];rfl)
 have HAO:=Lh (show as_.toList.all (·.oneCell')=true from by rw [← eas];rfl)
 have HB:=Lh (show bs_.size=7 from by rw [← ebs];rfl)
 have HBO:=Lh (show bs_.toList.all (·.oneCell')=true from by rw [← ebs];rfl)
 rw [eas,ebs]
 clear eas ebs
 go_enter Tryz.func36,Tryz.ntmps36
 go_upto_region 1 with (fail)
 have c1:=(((Blk.new w 58 as_).alloc (.cells bs_ 58)).cell 0).trans VA.out
 have c2:=((Blk.new (w.alloc (.cells as_ 58)) 58 bs_).cell 0).trans VB.out
 rw [show (w.alloc (.cells as_ 58)).heap.size=w.heap.size+1 from by simp] at c2
 have HB0:=Lh (show Below w.heap.size w ((w.alloc (.cells as_ 58)).alloc (.cells bs_ 58)) from ((Below.refl _ _).alloc (Nat.le_refl _) _).alloc (by simp) _)
 obtain⟨w1,ew1⟩:∃w1,(w.alloc (.cells as_ 58)).alloc (.cells bs_ 58)=w1:=⟨_,rfl⟩
 rw [ew1] at c1 c2 HB0 ⊢
 clear ew1
 go_wp2_with (go_at_call 37;refine (cmpS a.x.key b.x.key _ ha hb).mono ?_;rintro e w2 ⟨rfl,rfl⟩)
 go_ret
 exact⟨by rw [HL.out];rfl,HB0.out⟩
theorem hw2Itt (a b:IM) (w:World) (h:decide (a.x.obj.version<b.x.obj.version)=true) :
 Calls Tryz.prog 39 #[.agg (iA a),.agg (iA b)] w fun e w'=>e = .returned (.int .i64 (-1))∧Below w.heap.size w w':=by
 have HL:=Lh h
 clear h
 obtain⟨as_,eas⟩:∃as_,iA a=as_:=⟨_,rfl⟩
 obtain⟨bs_,ebs⟩:∃bs_,iA b=bs_:=⟨_,rfl⟩
 have VA:=Lh (show as_[1]?=some (.int .u64 (a.x.obj.version:Int)) from by rw [← eas];rfl)
 have VB:=Lh (show bs_[1]?=some (.int .u64 (b.x.obj.version:Int)) from by rw [← ebs];rfl)
 have HA:=Lh (show as_.size=9 from by rw [← eas];rfl)
 have HAO:=Lh (show as_.toList.all (·.oneCell')=true from by rw [← eas];rfl)
 have HB:=Lh (show bs_.size=9 from by rw [← ebs];rfl)
 have HBO:=Lh (show bs_.toList.all (·.oneCell')=true from by rw [← ebs];rfl)
 rw [eas,ebs]
 clear eas ebs
 go_enter Tryz.func39,Tryz.ntmps39
 go_upto_region 1 with (fail)
 have c1:=(((Blk.new w 60 as_).alloc (.cells bs_ 60)).cell 1).trans VA.out
 have c2:=((Blk.new (w.alloc (.cells as_ 60)) 60 bs_).cell 1).trans VB.out
 rw [show (w.alloc (.cells as_ 60)).heap.size=w.heap.size+1 from by simp] at c2
 have HB0:=Lh (show Below w.heap.size w ((w.alloc (.cells as_ 60)).alloc (.cells bs_ 60)) from ((Below.refl _ _).alloc (Nat.le_refl _) _).alloc (by simp) _)
 obtain⟨w1,ew1⟩:∃w1,(w.alloc (.cells as_ 60)).alloc (.cells bs_ 60)=w1:=⟨_,rfl⟩
 rw [ew1] at c1 c2 HB0 ⊢
 clear ew1
 go_wp2_with (go_at_call 40;refine (cmpU a.x.obj.version b.x.obj.version _).mono ?_;rintro e w2 ⟨rfl,rfl⟩)
 go_ret
 exact⟨by rw [HL.out];rfl,HB0.out⟩
theorem hw2Ses (a b:SesT) (w:World) (h:decide (a.client<b.client)=true) :
 Calls Tryz.prog 42 #[.agg (sesCs a),.agg (sesCs b)] w fun e w'=>e = .returned (.int .i64 (-1))∧Below w.heap.size w w':=by
 have HL:=Lh h
 clear h
 obtain⟨as_,eas⟩:∃as_,sesCs a=as_:=⟨_,rfl⟩
 obtain⟨bs_,ebs⟩:∃bs_,sesCs b=bs_:=⟨_,rfl⟩
 have VA:=Lh (show as_[0]?=some (.int .u64 (a.client:Int)) from by rw [← eas];rfl)
 have VB:=Lh (show bs_[0]?=some (.int .u64 (b.client:Int)) from by rw [← ebs];rfl)
 have HA:=Lh (show as_.size=5 from by rw [← eas];rfl)
 have HAO:=Lh (show as_.toList.all (·.oneCell')=true from by rw [← eas];rfl)
 have HB:=Lh (show bs_.size=5 from by rw [← ebs];rfl)
 have HBO:=Lh (show bs_.toList.all (·.oneCell')=true from by rw [← ebs];rfl)
 rw [eas,ebs]
 clear eas ebs
 go_enter Tryz.func42,Tryz.ntmps42
 go_upto_region 1 with (fail)
 have c1:=(((Blk.new w 92 as_).alloc (.cells bs_ 92)).cell 0).trans VA.out
 have c2:=((Blk.new (w.alloc (.cells as_ 92)) 92 bs_).cell 0).trans VB.out
 rw [show (w.alloc (.cells as_ 92)).heap.size=w.heap.size+1 from by simp] at c2
 have HB0:=Lh (show Below w.heap.size w ((w.alloc (.cells as_ 92)).alloc (.cells bs_ 92)) from ((Below.refl _ _).alloc (Nat.le_refl _) _).alloc (by simp) _)
 obtain⟨w1,ew1⟩:∃w1,(w.alloc (.cells as_ 92)).alloc (.cells bs_ 92)=w1:=⟨_,rfl⟩
 rw [ew1] at c1 c2 HB0 ⊢
 clear ew1
 go_wp2_with (go_at_call 40;refine (cmpU a.client b.client _).mono ?_;rintro e w2 ⟨rfl,rfl⟩)
 go_ret
 exact⟨by rw [HL.out];rfl,HB0.out⟩
theorem hw2Was (a b:WasT) (w:World) (h:ltW a b=true) :
 Calls Tryz.prog 44 #[.agg (wasCs a),.agg (wasCs b)] w fun e w'=>e = .returned (.int .i64 (-1))∧Below w.heap.size w w' :=
 (order_any a b w).mono (fun e w' k=>⟨by rw [k.1,h,cmpV_lt],k.2⟩)
theorem hw2I64 (a b:Int) (w:World) (h:decide (a<b)=true) :
 Calls Tryz.prog 46 #[.int .i64 a,.int .i64 b] w fun e w'=>e = .returned (.int .i64 (-1))∧Below w.heap.size w w' :=
 (cmpI a b w).mono (fun e w' k=>⟨by rw [k.1,h,cmpV_lt],by rw [← k.2];exact Below.refl _ _⟩)
theorem rsObj (A:Option Addr) (n cap:Nat) (ms:List OM) (w:World) (hr:Hid (Reads w w.heap.size 7 A n (ms.flatMap omCs))) (hl:Hid (ms.length=n)) (hn:n≤67108864) (hR:Hid (Ris bytO (fun m:OM=>m.x.key) ms)) (hm:Hid (∀m ∈ ms,Byt m.x.key)) :
 Calls Tryz.prog 35 #[.slice A n cap,.func (.func 36) #[] #[]] w fun e w'=>e = .returned (.bool true)∧Below w.heap.size w w':=by
 go_enter Tryz.func35,Tryz.ntmps35
 go_wp2_with fail
 go_loopw [5] (fun vi wr=>∃k:Nat,k≤n+1∧1≤k∧vi = .int .i64 k∧Hid (Below w.heap.size w wr)) (fun vi _=>n+1 - (intOf vi).toNat)
 case atStart=>exact⟨1,by omega,by omega,rfl,Lh (Below.refl _ _)⟩
 case round =>
  obtain⟨k,hk,hk1,rfl,HB⟩:=hrel
  by_cases hlt:k<n
  · obtain⟨j,hj⟩:∃j,j+1=k:=⟨k - 1,by omega⟩
    have h1:j<ms.length:=by have:=hl.out;omega
    have h2:k<ms.length:=by have:=hl.out;omega
    have hp:=List.pairwise_iff_getElem.1 hR.out j k h1 h2 (by omega)
    obtain⟨ad,rfl,hadb,hc1⟩:=elem_cells (cells:=omCs) (K:=7) (fun _=>rfl) hr.out h1 (by omega)
    obtain⟨ad',e',_,hc2⟩:=elem_cells (cells:=omCs) (K:=7) (fun _=>rfl) hr.out h2 (by omega)
    injection e' with e'
    subst e'
    have HN:=Lh (fun W=>hw2Obj ms[j] ms[k] W (hm.out _ (List.getElem_mem _)) (hm.out _ (List.getElem_mem _)) hp)
    obtain⟨a,ea⟩:∃a,ms[j]=a:=⟨_,rfl⟩
    obtain⟨b,eb⟩:∃b,ms[k]=b:=⟨_,rfl⟩
    rw [ea] at hc1
    rw [eb] at hc2
    rw [ea,eb] at HN
    have HAD0:=Lh hadb
    have HAD:=Lh (Nat.lt_of_lt_of_le hadb HB.out.size)
    have HC1:=Lh (fun j' v hv=>(HB.out.cell (p:=(ad.add (j*7)).add j') (by rw [block_of_add,block_of_add];exact hadb)).trans (hc1 j' v hv))
    have HC2:=Lh (fun j' v hv=>(HB.out.cell (p:=(ad.add (k*7)).add j') (by rw [block_of_add,block_of_add];exact hadb)).trans (hc2 j' v hv))
    have hw:IntKind.i64.wrap ((k:Int) - 1)=(j:Int):=by rw [IntKind.wrap_i64];omega
    have hjn:j<n:=by omega
    clear hp ea eb hc1 hc2 hadb h1 h2 hj
    go_upto_region 4 with (fail)
    refine wp_region_late (S0:=fun w'=>Below wr.heap.size wr w') (S:=fun _=>True) 10 12 (by kernel_rfl) rfl ⟨(Below.refl _ _).drew,trivial⟩ (fun wd hwd hH=>?_)
    have DW:=Lh (show Below wr.heap.size wr wd from by rw [hwd];exact (Below.refl _ _).drew)
    clear hwd
    refine tS 0 rfl ?_ hH ?_ ?_
    rotate_left
    · (intro wx hx;go_simp <;> with_reducible rfl)
    try simp only [Act.put,pA9,pZ9,pS9]
    refine tS 1 rfl ?_ hH ?_ ?_
    rotate_left
    · (intro wx hx;go_simp <;> with_reducible rfl)
    try simp only [Act.put,pA9,pZ9,pS9]
    refine tS 2 rfl ?_ hH ?_ ?_
    rotate_left
    · (intro wx hx;go_simp <;> with_reducible rfl)
    try simp only [Act.put,pA9,pZ9,pS9]
    refine tS 3 rfl ?_ hH ?_ ?_
    rotate_left
    · (intro wx hx;go_simp <;> with_reducible rfl)
    try simp only [Act.put,pA9,pZ9,pS9]
    refine tS 4 rfl ?_ hH ?_ ?_
    rotate_left
    · (intro wx hx;go_simp <;> with_reducible rfl)
    try simp only [Act.put,pA9,pZ9,pS9]
    refine wpAnyT_stay 5 rfl (by kernel_rfl) (fun _ _ _ h=>h) (yields_load_at rfl 58 (.tmp 16) rfl (ad.add (j*7)) (omCs a) _ rfl (fun w' hw' j' v hv=>(Below.cell hw' (p:=(ad.add (j*7)).add j') (by rw [block_of_add,block_of_add];exact HAD.out)).trans (HC1.out j' v hv)) Tryz.underlying58 rfl rfl) ⟨hH.1,fun _=>hH.2⟩ ?_
    try simp only [Act.put,pA9,pZ9,pS9]
    refine tS 6 rfl ?_ hH ?_ ?_
    rotate_left
    · (intro wx hx;go_simp <;> with_reducible rfl)
    try simp only [Act.put,pA9,pZ9,pS9]
    refine tS 7 rfl ?_ hH ?_ ?_
    rotate_left
    · (intro wx hx;go_simp <;> with_reducible rfl)
    try simp only [Act.put,pA9,pZ9,pS9]
    refine tS 8 rfl ?_ hH ?_ ?_
    rotate_left
    · (intro wx hx;go_simp <;> with_reducible rfl)
    try simp only [Act.put,pA9,pZ9,pS9]
    refine wpAnyT_stay 9 rfl (by kernel_rfl) (fun _ _ _ h=>h) (yields_load_at rfl 58 (.tmp 20) rfl (ad.add (k*7)) (omCs b) _ rfl (fun w' hw' j' v hv=>(Below.cell hw' (p:=(ad.add (k*7)).add j') (by rw [block_of_add,block_of_add];exact HAD.out)).trans (HC2.out j' v hv)) Tryz.underlying58 rfl rfl) ⟨hH.1,fun _=>hH.2⟩ ?_
    try simp only [Act.put,pA9,pZ9,pS9]
    refine wpAnyT_last 10 rfl (by kernel_rfl) (by decide) (fun K hQ=>?_)
    go_simp
    (go_at_call 36;refine (HN.out wd).mono ?_;rintro e w6 ⟨rfl,hb6⟩)
    refine hQ.out _ _ ?_ (fun hH10=>?_)
    · exact DW.out.trans (hb6.mono DW.out.size)
    clear hQ K
    try simp only [Act.put,pA9,pZ9,pS9]
    refine tT 11 rfl ?_ ⟨hH10,fun h=>absurd h (by decide)⟩ ?_ ?_
    rotate_left
    · (intro wx hx;go_simp <;> with_reducible rfl)
    try simp only [Act.put,pA9,pZ9,pS9]
    refine wpAnyT_done (by kernel_rfl) ?_ _
    have HB6:=Lh (HB.out.trans ((DW.out.trans (hb6.mono DW.out.size)).mono HB.out.size))
    clear hH hH10 hw
    go_wp2_with fail
    exact⟨⟨k+1,by omega,by omega,by go_num,HB6⟩,by simp [intOf];omega⟩
  · go_wp2
    go_ret
    exact⟨rfl,HB.out⟩
theorem rsItt (A:Option Addr) (n cap:Nat) (ms:List IM) (w:World) (hr:Hid (Reads w w.heap.size 9 A n (ms.flatMap imCs))) (hl:Hid (ms.length=n)) (hn:n≤67108864) (hR:Hid (Ris natO (fun m:IM=>verI m.x) ms)) :
 Calls Tryz.prog 38 #[.slice A n cap,.func (.func 39) #[] #[]] w fun e w'=>e = .returned (.bool true)∧Below w.heap.size w w':=by
 go_enter Tryz.func38,Tryz.ntmps38
 go_wp2_with fail
 go_loopw [5] (fun vi wr=>∃k:Nat,k≤n+1∧1≤k∧vi = .int .i64 k∧Hid (Below w.heap.size w wr)) (fun vi _=>n+1 - (intOf vi).toNat)
 case atStart=>exact⟨1,by omega,by omega,rfl,Lh (Below.refl _ _)⟩
 case round =>
  obtain⟨k,hk,hk1,rfl,HB⟩:=hrel
  by_cases hlt:k<n
  · obtain⟨j,hj⟩:∃j,j+1=k:=⟨k - 1,by omega⟩
    have h1:j<ms.length:=by have:=hl.out;omega
    have h2:k<ms.length:=by have:=hl.out;omega
    have hp:=List.pairwise_iff_getElem.1 hR.out j k h1 h2 (by omega)
    obtain⟨ad,rfl,hadb,hc1⟩:=elem_cells (cells:=imCs) (K:=9) (fun _=>rfl) hr.out h1 (by omega)
    obtain⟨ad',e',_,hc2⟩:=elem_cells (cells:=imCs) (K:=9) (fun _=>rfl) hr.out h2 (by omega)
    injection e' with e'
    subst e'
    have HN:=Lh (fun W=>hw2Itt ms[j] ms[k] W hp)
    obtain⟨a,ea⟩:∃a,ms[j]=a:=⟨_,rfl⟩
    obtain⟨b,eb⟩:∃b,ms[k]=b:=⟨_,rfl⟩
    rw [ea] at hc1
    rw [eb] at hc2
    rw [ea,eb] at HN
    have HAD0:=Lh hadb
    have HAD:=Lh (Nat.lt_of_lt_of_le hadb HB.out.size)
    have HC1:=Lh (fun j' v hv=>(HB.out.cell (p:=(ad.add (j*9)).add j') (by rw [block_of_add,block_of_add];exact hadb)).trans (hc1 j' v hv))
    have HC2:=Lh (fun j' v hv=>(HB.out.cell (p:=(ad.add (k*9)).add j') (by rw [block_of_add,block_of_add];exact hadb)).trans (hc2 j' v hv))
    have hw:IntKind.i64.wrap ((k:Int) - 1)=(j:Int):=by rw [IntKind.wrap_i64];omega
    have hjn:j<n:=by omega
    clear hp ea eb hc1 hc2 hadb h1 h2 hj
    go_upto_region 4 with (fail)
    refine wp_region_late (S0:=fun w'=>Below wr.heap.size wr w') (S:=fun _=>True) 10 12 (by kernel_rfl) rfl ⟨(Below.refl _ _).drew,trivial⟩ (fun wd hwd hH=>?_)
    have DW:=Lh (show Below wr.heap.size wr wd from by rw [hwd];exact (Below.refl _ _).drew)
    clear hwd
    refine tS 0 rfl ?_ hH ?_ ?_
    rotate_left
    · (intro wx hx;go_simp <;> with_reducible rfl)
    try simp only [Act.put,pA9,pZ9,pS9]
    refine tS 1 rfl ?_ hH ?_ ?_
    rotate_left
    · (intro wx hx;go_simp <;> with_reducible rfl)
    try simp only [Act.put,pA9,pZ9,pS9]
    refine tS 2 rfl ?_ hH ?_ ?_
    rotate_left
    · (intro wx hx;go_simp <;> with_reducible rfl)
    try simp only [Act.put,pA9,pZ9,pS9]
    refine tS 3 rfl ?_ hH ?_ ?_
    rotate_left
    · (intro wx hx;go_simp <;> with_reducible rfl)
    try simp only [Act.put,pA9,pZ9,pS9]
    refine tS 4 rfl ?_ hH ?_ ?_
    rotate_left
    · (intro wx hx;go_simp <;> with_reducible rfl)
    try simp only [Act.put,pA9,pZ9,pS9]
    refine wpAnyT_stay 5 rfl (by kernel_rfl) (fun _ _ _ h=>h) (yields_load_at rfl 60 (.tmp 16) rfl (ad.add (j*9)) (imCs a) _ rfl (fun w' hw' j' v hv=>(Below.cell hw' (p:=(ad.add (j*9)).add j') (by rw [block_of_add,block_of_add];exact HAD.out)).trans (HC1.out j' v hv)) Tryz.underlying60 rfl rfl) ⟨hH.1,fun _=>hH.2⟩ ?_
    try simp only [Act.put,pA9,pZ9,pS9]
    refine tS 6 rfl ?_ hH ?_ ?_
    rotate_left
    · (intro wx hx;go_simp <;> with_reducible rfl)
    try simp only [Act.put,pA9,pZ9,pS9]
    refine tS 7 rfl ?_ hH ?_ ?_
    rotate_left
    · (intro wx hx;go_simp <;> with_reducible rfl)
    try simp only [Act.put,pA9,pZ9,pS9]
    refine tS 8 rfl ?_ hH ?_ ?_
    rotate_left
    · (intro wx hx;go_simp <;> with_reducible rfl)
    try simp only [Act.put,pA9,pZ9,pS9]
    refine wpAnyT_stay 9 rfl (by kernel_rfl) (fun _ _ _ h=>h) (yields_load_at rfl 60 (.tmp 20) rfl (ad.add (k*9)) (imCs b) _ rfl (fun w' hw' j' v hv=>(Below.cell hw' (p:=(ad.add (k*9)).add j') (by rw [block_of_add,block_of_add];exact HAD.out)).trans (HC2.out j' v hv)) Tryz.underlying60 rfl rfl) ⟨hH.1,fun _=>hH.2⟩ ?_
    try simp only [Act.put,pA9,pZ9,pS9]
    refine wpAnyT_last 10 rfl (by kernel_rfl) (by decide) (fun K hQ=>?_)
    go_simp
    (go_at_call 39;refine (HN.out wd).mono ?_;rintro e w6 ⟨rfl,hb6⟩)
    refine hQ.out _ _ ?_ (fun hH10=>?_)
    · exact DW.out.trans (hb6.mono DW.out.size)
    clear hQ K
    try simp only [Act.put,pA9,pZ9,pS9]
    refine tT 11 rfl ?_ ⟨hH10,fun h=>absurd h (by decide)⟩ ?_ ?_
    rotate_left
    · (intro wx hx;go_simp <;> with_reducible rfl)
    try simp only [Act.put,pA9,pZ9,pS9]
    refine wpAnyT_done (by kernel_rfl) ?_ _
    have HB6:=Lh (HB.out.trans ((DW.out.trans (hb6.mono DW.out.size)).mono HB.out.size))
    clear hH hH10 hw
    go_wp2_with fail
    exact⟨⟨k+1,by omega,by omega,by go_num,HB6⟩,by simp [intOf];omega⟩
  · go_wp2
    go_ret
    exact⟨rfl,HB.out⟩
theorem rsSes (A:Option Addr) (n cap:Nat) (ms:List SesT) (w:World) (hr:Hid (Reads w w.heap.size 5 A n (ms.flatMap sesL))) (hl:Hid (ms.length=n)) (hn:n≤67108864) (hR:Hid (Ris natO SesT.client ms)) :
 Calls Tryz.prog 41 #[.slice A n cap,.func (.func 42) #[] #[]] w fun e w'=>e = .returned (.bool true)∧Below w.heap.size w w':=by
 go_enter Tryz.func41,Tryz.ntmps41
 go_wp2_with fail
 go_loopw [5] (fun vi wr=>∃k:Nat,k≤n+1∧1≤k∧vi = .int .i64 k∧Hid (Below w.heap.size w wr)) (fun vi _=>n+1 - (intOf vi).toNat)
 case atStart=>exact⟨1,by omega,by omega,rfl,Lh (Below.refl _ _)⟩
 case round =>
  obtain⟨k,hk,hk1,rfl,HB⟩:=hrel
  by_cases hlt:k<n
  · obtain⟨j,hj⟩:∃j,j+1=k:=⟨k - 1,by omega⟩
    have h1:j<ms.length:=by have:=hl.out;omega
    have h2:k<ms.length:=by have:=hl.out;omega
    have hp:=List.pairwise_iff_getElem.1 hR.out j k h1 h2 (by omega)
    obtain⟨ad,rfl,hadb,hc1⟩:=elem_cells (cells:=sesL) (K:=5) (fun _=>rfl) hr.out h1 (by omega)
    obtain⟨ad',e',_,hc2⟩:=elem_cells (cells:=sesL) (K:=5) (fun _=>rfl) hr.out h2 (by omega)
    injection e' with e'
    subst e'
    have HN:=Lh (fun W=>hw2Ses ms[j] ms[k] W hp)
    obtain⟨a,ea⟩:∃a,ms[j]=a:=⟨_,rfl⟩
    obtain⟨b,eb⟩:∃b,ms[k]=b:=⟨_,rfl⟩
    rw [ea] at hc1
    rw [eb] at hc2
    rw [ea,eb] at HN
    have HAD0:=Lh hadb
    have HAD:=Lh (Nat.lt_of_lt_of_le hadb HB.out.size)
    have HC1:=Lh (fun j' v hv=>(HB.out.cell (p:=(ad.add (j*5)).add j') (by rw [block_of_add,block_of_add];exact hadb)).trans (hc1 j' v hv))
    have HC2:=Lh (fun j' v hv=>(HB.out.cell (p:=(ad.add (k*5)).add j') (by rw [block_of_add,block_of_add];exact hadb)).trans (hc2 j' v hv))
    have hw:IntKind.i64.wrap ((k:Int) - 1)=(j:Int):=by rw [IntKind.wrap_i64];omega
    have hjn:j<n:=by omega
    clear hp ea eb hc1 hc2 hadb h1 h2 hj
    go_upto_region 4 with (fail)
    refine wp_region_late (S0:=fun w'=>Below wr.heap.size wr w') (S:=fun _=>True) 10 12 (by kernel_rfl) rfl ⟨(Below.refl _ _).drew,trivial⟩ (fun wd hwd hH=>?_)
    have DW:=Lh (show Below wr.heap.size wr wd from by rw [hwd];exact (Below.refl _ _).drew)
    clear hwd
    refine tS 0 rfl ?_ hH ?_ ?_
    rotate_left
    · (intro wx hx;go_simp <;> with_reducible rfl)
    try simp only [Act.put,pA9,pZ9,pS9]
    refine tS 1 rfl ?_ hH ?_ ?_
    rotate_left
    · (intro wx hx;go_simp <;> with_reducible rfl)
    try simp only [Act.put,pA9,pZ9,pS9]
    refine tS 2 rfl ?_ hH ?_ ?_
    rotate_left
    · (intro wx hx;go_simp <;> with_reducible rfl)
    try simp only [Act.put,pA9,pZ9,pS9]
    refine tS 3 rfl ?_ hH ?_ ?_
    rotate_left
    · (intro wx hx;go_simp <;> with_reducible rfl)
    try simp only [Act.put,pA9,pZ9,pS9]
    refine tS 4 rfl ?_ hH ?_ ?_
    rotate_left
    · (intro wx hx;go_simp <;> with_reducible rfl)
    try simp only [Act.put,pA9,pZ9,pS9]
    refine wpAnyT_stay 5 rfl (by kernel_rfl) (fun _ _ _ h=>h) (yields_load_at rfl 92 (.tmp 16) rfl (ad.add (j*5)) (sesL a) _ rfl (fun w' hw' j' v hv=>(Below.cell hw' (p:=(ad.add (j*5)).add j') (by rw [block_of_add,block_of_add];exact HAD.out)).trans (HC1.out j' v hv)) Tryz.underlying92 rfl rfl) ⟨hH.1,fun _=>hH.2⟩ ?_
    try simp only [Act.put,pA9,pZ9,pS9]
    refine tS 6 rfl ?_ hH ?_ ?_
    rotate_left
    · (intro wx hx;go_simp <;> with_reducible rfl)
    try simp only [Act.put,pA9,pZ9,pS9]
    refine tS 7 rfl ?_ hH ?_ ?_
    rotate_left
    · (intro wx hx;go_simp <;> with_reducible rfl)
    try simp only [Act.put,pA9,pZ9,pS9]
    refine tS 8 rfl ?_ hH ?_ ?_
    rotate_left
    · (intro wx hx;go_simp <;> with_reducible rfl)
    try simp only [Act.put,pA9,pZ9,pS9]
    refine wpAnyT_stay 9 rfl (by kernel_rfl) (fun _ _ _ h=>h) (yields_load_at rfl 92 (.tmp 20) rfl (ad.add (k*5)) (sesL b) _ rfl (fun w' hw' j' v hv=>(Below.cell hw' (p:=(ad.add (k*5)).add j') (by rw [block_of_add,block_of_add];exact HAD.out)).trans (HC2.out j' v hv)) Tryz.underlying92 rfl rfl) ⟨hH.1,fun _=>hH.2⟩ ?_
    try simp only [Act.put,pA9,pZ9,pS9]
    refine wpAnyT_last 10 rfl (by kernel_rfl) (by decide) (fun K hQ=>?_)
    go_simp
    (go_at_call 42;refine (HN.out wd).mono ?_;rintro e w6 ⟨rfl,hb6⟩)
    refine hQ.out _ _ ?_ (fun hH10=>?_)
    · exact DW.out.trans (hb6.mono DW.out.size)
    clear hQ K
    try simp only [Act.put,pA9,pZ9,pS9]
    refine tT 11 rfl ?_ ⟨hH10,fun h=>absurd h (by decide)⟩ ?_ ?_
    rotate_left
    · (intro wx hx;go_simp <;> with_reducible rfl)
    try simp only [Act.put,pA9,pZ9,pS9]
    refine wpAnyT_done (by kernel_rfl) ?_ _
    have HB6:=Lh (HB.out.trans ((DW.out.trans (hb6.mono DW.out.size)).mono HB.out.size))
    clear hH hH10 hw
    go_wp2_with fail
    exact⟨⟨k+1,by omega,by omega,by go_num,HB6⟩,by simp [intOf];omega⟩
  · go_wp2
    go_ret
    exact⟨rfl,HB.out⟩
theorem rsWas (A:Option Addr) (n cap:Nat) (ms:List WasT) (w:World) (hr:Hid (Reads w w.heap.size 4 A n (ms.flatMap wasL))) (hl:Hid (ms.length=n)) (hn:n≤67108864) (hR:Hid (Ris wasO (fun m:WasT=>m) ms)) :
 Calls Tryz.prog 43 #[.slice A n cap,.func (.func 44) #[] #[]] w fun e w'=>e = .returned (.bool true)∧Below w.heap.size w w':=by
 go_enter Tryz.func43,Tryz.ntmps43
 go_wp2_with fail
 go_loopw [5] (fun vi wr=>∃k:Nat,k≤n+1∧1≤k∧vi = .int .i64 k∧Hid (Below w.heap.size w wr)) (fun vi _=>n+1 - (intOf vi).toNat)
 case atStart=>exact⟨1,by omega,by omega,rfl,Lh (Below.refl _ _)⟩
 case round =>
  obtain⟨k,hk,hk1,rfl,HB⟩:=hrel
  by_cases hlt:k<n
  · obtain⟨j,hj⟩:∃j,j+1=k:=⟨k - 1,by omega⟩
    have h1:j<ms.length:=by have:=hl.out;omega
    have h2:k<ms.length:=by have:=hl.out;omega
    have hp:=List.pairwise_iff_getElem.1 hR.out j k h1 h2 (by omega)
    obtain⟨ad,rfl,hadb,hc1⟩:=elem_cells (cells:=wasL) (K:=4) (fun _=>rfl) hr.out h1 (by omega)
    obtain⟨ad',e',_,hc2⟩:=elem_cells (cells:=wasL) (K:=4) (fun _=>rfl) hr.out h2 (by omega)
    injection e' with e'
    subst e'
    have HN:=Lh (fun W=>hw2Was ms[j] ms[k] W hp)
    obtain⟨a,ea⟩:∃a,ms[j]=a:=⟨_,rfl⟩
    obtain⟨b,eb⟩:∃b,ms[k]=b:=⟨_,rfl⟩
    rw [ea] at hc1
    rw [eb] at hc2
    rw [ea,eb] at HN
    have HAD0:=Lh hadb
    have HAD:=Lh (Nat.lt_of_lt_of_le hadb HB.out.size)
    have HC1:=Lh (fun j' v hv=>(HB.out.cell (p:=(ad.add (j*4)).add j') (by rw [block_of_add,block_of_add];exact hadb)).trans (hc1 j' v hv))
    have HC2:=Lh (fun j' v hv=>(HB.out.cell (p:=(ad.add (k*4)).add j') (by rw [block_of_add,block_of_add];exact hadb)).trans (hc2 j' v hv))
    have hw:IntKind.i64.wrap ((k:Int) - 1)=(j:Int):=by rw [IntKind.wrap_i64];omega
    have hjn:j<n:=by omega
    clear hp ea eb hc1 hc2 hadb h1 h2 hj
    go_upto_region 4 with (fail)
    refine wp_region_late (S0:=fun w'=>Below wr.heap.size wr w') (S:=fun _=>True) 10 12 (by kernel_rfl) rfl ⟨(Below.refl _ _).drew,trivial⟩ (fun wd hwd hH=>?_)
    have DW:=Lh (show Below wr.heap.size wr wd from by rw [hwd];exact (Below.refl _ _).drew)
    clear hwd
    refine tS 0 rfl ?_ hH ?_ ?_
    rotate_left
    · (intro wx hx;go_simp <;> with_reducible rfl)
    try simp only [Act.put,pA9,pZ9,pS9]
    refine tS 1 rfl ?_ hH ?_ ?_
    rotate_left
    · (intro wx hx;go_simp <;> with_reducible rfl)
    try simp only [Act.put,pA9,pZ9,pS9]
    refine tS 2 rfl ?_ hH ?_ ?_
    rotate_left
    · (intro wx hx;go_simp <;> with_reducible rfl)
    try simp only [Act.put,pA9,pZ9,pS9]
    refine tS 3 rfl ?_ hH ?_ ?_
    rotate_left
    · (intro wx hx;go_simp <;> with_reducible rfl)
    try simp only [Act.put,pA9,pZ9,pS9]
    refine tS 4 rfl ?_ hH ?_ ?_
    rotate_left
    · (intro wx hx;go_simp <;> with_reducible rfl)
    try simp only [Act.put,pA9,pZ9,pS9]
    refine wpAnyT_stay 5 rfl (by kernel_rfl) (fun _ _ _ h=>h) (yields_load_at rfl 52 (.tmp 16) rfl (ad.add (j*4)) (wasL a) _ rfl (fun w' hw' j' v hv=>(Below.cell hw' (p:=(ad.add (j*4)).add j') (by rw [block_of_add,block_of_add];exact HAD.out)).trans (HC1.out j' v hv)) Tryz.underlying52 rfl rfl) ⟨hH.1,fun _=>hH.2⟩ ?_
    try simp only [Act.put,pA9,pZ9,pS9]
    refine tS 6 rfl ?_ hH ?_ ?_
    rotate_left
    · (intro wx hx;go_simp <;> with_reducible rfl)
    try simp only [Act.put,pA9,pZ9,pS9]
    refine tS 7 rfl ?_ hH ?_ ?_
    rotate_left
    · (intro wx hx;go_simp <;> with_reducible rfl)
    try simp only [Act.put,pA9,pZ9,pS9]
    refine tS 8 rfl ?_ hH ?_ ?_
    rotate_left
    · (intro wx hx;go_simp <;> with_reducible rfl)
    try simp only [Act.put,pA9,pZ9,pS9]
    refine wpAnyT_stay 9 rfl (by kernel_rfl) (fun _ _ _ h=>h) (yields_load_at rfl 52 (.tmp 20) rfl (ad.add (k*4)) (wasL b) _ rfl (fun w' hw' j' v hv=>(Below.cell hw' (p:=(ad.add (k*4)).add j') (by rw [block_of_add,block_of_add];exact HAD.out)).trans (HC2.out j' v hv)) Tryz.underlying52 rfl rfl) ⟨hH.1,fun _=>hH.2⟩ ?_
    try simp only [Act.put,pA9,pZ9,pS9]
    refine wpAnyT_last 10 rfl (by kernel_rfl) (by decide) (fun K hQ=>?_)
    go_simp
    (go_at_call 44;refine (HN.out wd).mono ?_;rintro e w6 ⟨rfl,hb6⟩)
    refine hQ.out _ _ ?_ (fun hH10=>?_)
    · exact DW.out.trans (hb6.mono DW.out.size)
    clear hQ K
    try simp only [Act.put,pA9,pZ9,pS9]
    refine tT 11 rfl ?_ ⟨hH10,fun h=>absurd h (by decide)⟩ ?_ ?_
    rotate_left
    · (intro wx hx;go_simp <;> with_reducible rfl)
    try simp only [Act.put,pA9,pZ9,pS9]
    refine wpAnyT_done (by kernel_rfl) ?_ _
    have HB6:=Lh (HB.out.trans ((DW.out.trans (hb6.mono DW.out.size)).mono HB.out.size))
    clear hH hH10 hw
    go_wp2_with fail
    exact⟨⟨k+1,by omega,by omega,by go_num,HB6⟩,by simp [intOf];omega⟩
  · go_wp2
    go_ret
    exact⟨rfl,HB.out⟩
theorem rsI64 (A:Option Addr) (n cap:Nat) (ms:List Int) (w:World) (hr:Hid (Reads w w.heap.size 1 A n (ms.flatMap i1))) (hl:Hid (ms.length=n)) (hn:n≤67108864) (hR:Hid (Ris intO (fun m:Int=>m) ms)) :
 Calls Tryz.prog 45 #[.slice A n cap,.func (.func 46) #[] #[]] w fun e w'=>e = .returned (.bool true)∧Below w.heap.size w w':=by
 go_enter Tryz.func45,Tryz.ntmps45
 go_wp2_with fail
 go_loopw [5] (fun vi wr=>∃k:Nat,k≤n+1∧1≤k∧vi = .int .i64 k∧Hid (Below w.heap.size w wr)) (fun vi _=>n+1 - (intOf vi).toNat)
 case atStart=>exact⟨1,by omega,by omega,rfl,Lh (Below.refl _ _)⟩
 case round =>
  obtain⟨k,hk,hk1,rfl,HB⟩:=hrel
  by_cases hlt:k<n
  · obtain⟨j,hj⟩:∃j,j+1=k:=⟨k - 1,by omega⟩
    have h1:j<ms.length:=by have:=hl.out;omega
    have h2:k<ms.length:=by have:=hl.out;omega
    have hp:=List.pairwise_iff_getElem.1 hR.out j k h1 h2 (by omega)
    obtain⟨ad,rfl,hadb,hc1⟩:=elem_cells (cells:=i1) (K:=1) (fun _=>rfl) hr.out h1 (by omega)
    obtain⟨ad',e',_,hc2⟩:=elem_cells (cells:=i1) (K:=1) (fun _=>rfl) hr.out h2 (by omega)
    injection e' with e'
    subst e'
    have HN:=Lh (fun W=>hw2I64 ms[j] ms[k] W hp)
    obtain⟨a,ea⟩:∃a,ms[j]=a:=⟨_,rfl⟩
    obtain⟨b,eb⟩:∃b,ms[k]=b:=⟨_,rfl⟩
    rw [ea] at hc1
    rw [eb] at hc2
    rw [ea,eb] at HN
    have HAD0:=Lh hadb
    have HAD:=Lh (Nat.lt_of_lt_of_le hadb HB.out.size)
    have HC1:=Lh hc1
    have HC2:=Lh hc2
    have hw:IntKind.i64.wrap ((k:Int) - 1)=(j:Int):=by rw [IntKind.wrap_i64];omega
    have hjn:j<n:=by omega
    clear hp ea eb hc1 hc2 hadb h1 h2 hj
    have d1:wr.cell? (ad.add j)=some (.int .i64 a):=by
     have h:=(HB.out.cell (p:=(ad.add (j*1)).add 0) (by rw [block_of_add,block_of_add];exact HAD0.out)).trans (HC1.out 0 _ rfl)
     rw [Nat.mul_one] at h
     exact h
    have d2:wr.cell? (ad.add k)=some (.int .i64 b):=by
     have h:=(HB.out.cell (p:=(ad.add (k*1)).add 0) (by rw [block_of_add,block_of_add];exact HAD0.out)).trans (HC2.out 0 _ rfl)
     rw [Nat.mul_one] at h
     exact h
    go_upto_region 4 with (fail)
    refine wp_region_late (S0:=fun w'=>Below wr.heap.size wr w'∧w'.cell? (ad.add j)=some (.int .i64 a)∧w'.cell? (ad.add k)=some (.int .i64 b)) (S:=fun _=>True) 10 12 (by kernel_rfl) rfl ⟨⟨(Below.refl _ _).drew,d1,d2⟩,trivial⟩ (fun wd hwd hH=>?_)
    have DW:=Lh (show Below wr.heap.size wr wd from by rw [hwd];exact (Below.refl _ _).drew)
    clear hwd
    refine tS 0 rfl ?_ hH ?_ ?_
    rotate_left
    · (intro wx hx;obtain⟨_,_,_⟩:=hx;go_simp <;> with_reducible rfl)
    try simp only [Act.put,pA9,pZ9,pS9]
    refine tS 1 rfl ?_ hH ?_ ?_
    rotate_left
    · (intro wx hx;obtain⟨_,_,_⟩:=hx;go_simp <;> with_reducible rfl)
    try simp only [Act.put,pA9,pZ9,pS9]
    refine tS 2 rfl ?_ hH ?_ ?_
    rotate_left
    · (intro wx hx;obtain⟨_,_,_⟩:=hx;go_simp <;> with_reducible rfl)
    try simp only [Act.put,pA9,pZ9,pS9]
    refine tS 3 rfl ?_ hH ?_ ?_
    rotate_left
    · (intro wx hx;obtain⟨_,_,_⟩:=hx;go_simp <;> with_reducible rfl)
    try simp only [Act.put,pA9,pZ9,pS9]
    refine tS 4 rfl ?_ hH ?_ ?_
    rotate_left
    · (intro wx hx;obtain⟨_,_,_⟩:=hx;go_simp <;> with_reducible rfl)
    try simp only [Act.put,pA9,pZ9,pS9]
    refine tS 5 rfl ?_ hH ?_ ?_
    rotate_left
    · (intro wx hx;obtain⟨_,_,_⟩:=hx;go_simp <;> with_reducible rfl)
    try simp only [Act.put,pA9,pZ9,pS9]
    refine tS 6 rfl ?_ hH ?_ ?_
    rotate_left
    · (intro wx hx;obtain⟨_,_,_⟩:=hx;go_simp <;> with_reducible rfl)
    try simp only [Act.put,pA9,pZ9,pS9]
    refine tS 7 rfl ?_ hH ?_ ?_
    rotate_left
    · (intro wx hx;obtain⟨_,_,_⟩:=hx;go_simp <;> with_reducible rfl)
    try simp only [Act.put,pA9,pZ9,pS9]
    refine tS 8 rfl ?_ hH ?_ ?_
    rotate_left
    · (intro wx hx;obtain⟨_,_,_⟩:=hx;go_simp <;> with_reducible rfl)
    try simp only [Act.put,pA9,pZ9,pS9]
    refine tS 9 rfl ?_ hH ?_ ?_
    rotate_left
    · (intro wx hx;obtain⟨_,_,_⟩:=hx;go_simp <;> with_reducible rfl)
    try simp only [Act.put,pA9,pZ9,pS9]
    refine wpAnyT_last 10 rfl (by kernel_rfl) (by decide) (fun K hQ=>?_)
    go_simp
    (go_at_call 46;refine (HN.out wd).mono ?_;rintro e w6 ⟨rfl,hb6⟩)
    refine hQ.out _ _ ?_ (fun hH10=>?_)
    · exact⟨DW.out.trans (hb6.mono DW.out.size),cell_later hb6 hH.1.2.1,cell_later hb6 hH.1.2.2⟩
    clear hQ K
    try simp only [Act.put,pA9,pZ9,pS9]
    refine tT 11 rfl ?_ ⟨hH10,fun h=>absurd h (by decide)⟩ ?_ ?_
    rotate_left
    · (intro wx hx;obtain⟨_,_,_⟩:=hx;go_simp <;> with_reducible rfl)
    try simp only [Act.put,pA9,pZ9,pS9]
    refine wpAnyT_done (by kernel_rfl) ?_ _
    have HB6:=Lh (HB.out.trans ((DW.out.trans (hb6.mono DW.out.size)).mono HB.out.size))
    clear hH hH10 hw
    go_wp2_with fail
    exact⟨⟨k+1,by omega,by omega,by go_num,HB6⟩,by simp [intOf];omega⟩
  · go_wp2
    go_ret
    exact⟨rfl,HB.out⟩
end
section
open Go.RowKit OctMath StrMath PlMath
theorem wp_load_blkW {P:Program} {op:Oper} {a:Act} {w:World} {K:Act→World→Prop} {Q:Exit→Act→World→Prop} (ty:TypeId) (x:Operand) (ho:op.op = .load ty x)
 (g:Nat) (t:TypeId) (cs:Array Value) (d:TypeDesc) (hx:a.eval x = .pointer (some ⟨g,0,none⟩)) (hB:Blk w g t cs) (hu:P.underlying ty=some d) (hd:d.isRow=true) (hi:(P.info? ty).map (·.size)=some cs.size)
 (h:K (a.put op.dst (.agg cs)) w):op.wp P a w K Q:=by
 unfold Oper.wp execOp
 simp only [ho,hx,Instr.loadAt,Instr.sureAddr,Sem.run_bind,Sem.run_pure,Result.andThen_ok,load_blk hB hu hd hi]
 exact h
theorem eqI (A B:Option Addr) (n c1 c2:Nat) (ms:List Int) (w:World) (h1:Hid (Reads w w.heap.size 1 A n (ms.map iv))) (h2:Hid (Reads w w.heap.size 1 B n (ms.map iv))) (hl:ms.length=n) (hn:n≤9223372036854775807) :
 Calls Tryz.prog 84 #[.slice A n c1,.slice B n c2] w fun e w'=>e = .returned (.bool true)∧Below w.heap.size w w':=by
 go_enter Tryz.func84,Tryz.ntmps84
 go_wp2
 go_loopw [5,13] (fun _ vi wr=>∃k:Nat,k≤n∧vi = .int .i64 k∧Hid (Below w.heap.size w wr)) (fun _ vi _=>n - (intOf vi).toNat)
 case atStart=>exact⟨0,by omega,rfl,Lh (Below.refl _ _)⟩
 case round =>
  obtain⟨k,hk,rfl,HB⟩:=hrel
  by_cases hlt:k<n
  · obtain⟨ad,rfl,hadb,c1⟩:=reads_int (h1.out.later HB.out) hlt
    obtain⟨ae,rfl,haeb,c2⟩:=reads_int (h2.out.later HB.out) hlt
    obtain⟨x,ex⟩:∃x,ms.getD k 0=x:=⟨_,rfl⟩
    rw [ex] at c1 c2
    clear ex
    have q1:(x != x)=false:=by simp
    have q2:(x == x)=true:=by simp
    go_upto_region 6 with (fail)
    refine wp_region_late (S0:=fun w'=>w'.cell? (ad.add k)=some (.int .i64 x)∧w'.cell? (ae.add k)=some (.int .i64 x)∧Below wr.heap.size wr w') (S:=fun _=>True) 8 9 (by kernel_rfl) rfl ⟨⟨c1,c2,(Below.refl _ _).drew⟩,trivial⟩ (fun wd hwd hH=>?_)
    have DW:=Lh (show Below wr.heap.size wr wd from by rw [hwd];exact (Below.refl _ _).drew)
    clear hwd
    refine tS 0 rfl ?_ hH ?_ ?_
    rotate_left
    · (intro wx hx;obtain⟨_,_,_⟩:=hx;go_simp <;> with_reducible rfl)
    try simp only [Act.put,pA9,pZ9,pS9]
    refine tS 1 rfl ?_ hH ?_ ?_
    rotate_left
    · (intro wx hx;obtain⟨_,_,_⟩:=hx;go_simp <;> with_reducible rfl)
    try simp only [Act.put,pA9,pZ9,pS9]
    refine tS 2 rfl ?_ hH ?_ ?_
    rotate_left
    · (intro wx hx;obtain⟨_,_,_⟩:=hx;go_simp <;> with_reducible rfl)
    try simp only [Act.put,pA9,pZ9,pS9]
    refine tS 3 rfl ?_ hH ?_ ?_
    rotate_left
    · (intro wx hx;obtain⟨_,_,_⟩:=hx;go_simp <;> with_reducible rfl)
    try simp only [Act.put,pA9,pZ9,pS9]
    refine tS 4 rfl ?_ hH ?_ ?_
    rotate_left
    · (intro wx hx;obtain⟨_,_,_⟩:=hx;go_simp <;> with_reducible rfl)
    try simp only [Act.put,pA9,pZ9,pS9]
    refine tS 5 rfl ?_ hH ?_ ?_
    rotate_left
    · (intro wx hx;obtain⟨_,_,_⟩:=hx;go_simp <;> with_reducible rfl)
    try simp only [Act.put,pA9,pZ9,pS9]
    refine tS 6 rfl ?_ hH ?_ ?_
    rotate_left
    · (intro wx hx;obtain⟨_,_,_⟩:=hx;go_simp <;> with_reducible rfl)
    try simp only [Act.put,pA9,pZ9,pS9]
    refine tS 7 rfl ?_ hH ?_ ?_
    rotate_left
    · (intro wx hx;obtain⟨_,_,_⟩:=hx;go_simp <;> with_reducible rfl)
    try simp only [Act.put,pA9,pZ9,pS9]
    refine wpAnyT_last 8 rfl (by kernel_rfl) (by decide) (fun K hQ=>?_)
    go_simp
    refine hQ.out _ _ ?_ (fun hH8=>?_)
    · exact hH.1
    clear hQ K
    try simp only [Act.put,pA9,pZ9,pS9]
    refine wpAnyT_done (by kernel_rfl) ?_ _
    clear hH hH8
    go_wp2
    exact⟨⟨k+1,by omega,by go_num,Lh (HB.out.trans (DW.out.mono HB.out.size))⟩,by simp [intOf];omega⟩
  · obtain rfl:k=n:=by omega
    go_wp2
    go_ret
    exact⟨rfl,HB.out⟩
theorem eqMem (A B:Option Addr) (n c1 c2:Nat) (ms:List (Int×Int)) (w:World) (h1:Hid (Reads w w.heap.size 2 A n (ms.flatMap (fun x=>[iv x.1,iv x.2])))) (h2:Hid (Reads w w.heap.size 2 B n (ms.flatMap (fun x=>[iv x.1,iv x.2])))) (hl:ms.length=n) (hn:n≤9223372036854775807) :
 Calls Tryz.prog 78 #[.slice A n c1,.slice B n c2] w fun e w'=>e = .returned (.bool true)∧Below w.heap.size w w':=by
 go_enter Tryz.func78,Tryz.ntmps78
 go_wp2
 go_loopw [5,13] (fun _ vi wr=>∃k:Nat,k≤n∧vi = .int .i64 k∧Hid (Below w.heap.size w wr)) (fun _ vi _=>n - (intOf vi).toNat)
 case atStart=>exact⟨0,by omega,rfl,Lh (Below.refl _ _)⟩
 case round =>
  obtain⟨k,hk,rfl,HB⟩:=hrel
  by_cases hlt:k<n
  · have hkl:k<ms.length:=by omega
    obtain⟨ad,rfl,hadb,c1⟩:=elem_cells (cells:=fun x:Int×Int=>[iv x.1,iv x.2]) (K:=2) (fun _=>rfl) (h1.out.later HB.out) hkl (by omega)
    obtain⟨ae,rfl,haeb,c2⟩:=elem_cells (cells:=fun x:Int×Int=>[iv x.1,iv x.2]) (K:=2) (fun _=>rfl) (h2.out.later HB.out) hkl (by omega)
    obtain⟨x,ex⟩:∃x,ms[k]=x:=⟨_,rfl⟩
    rw [ex] at c1 c2
    have C1:=Lh c1
    have C2:=Lh c2
    clear ex c1 c2 hkl
    obtain⟨p,q⟩:=x
    have C1:Hid (∀j' v,[Value.int .i64 p,Value.int .i64 q][j']?=some v→wr.cell? ((ad.add (k*2)).add j')=some v):=C1
    have C2:Hid (∀j' v,[Value.int .i64 p,Value.int .i64 q][j']?=some v→wr.cell? ((ae.add (k*2)).add j')=some v):=C2
    have q1:(p == p)=true:=by simp
    have q2:(q == q)=true:=by simp
    go_upto_region 6 with (fail)
    refine wp_region_late (S0:=fun w'=>(∀j' v,[Value.int .i64 p,Value.int .i64 q][j']?=some v→w'.cell? ((ad.add (k*2)).add j')=some v)∧(∀j' v,[Value.int .i64 p,Value.int .i64 q][j']?=some v→w'.cell? ((ae.add (k*2)).add j')=some v)) (S:=fun _=>True) 8 9 (by kernel_rfl) rfl ⟨⟨C1.out,C2.out⟩,trivial⟩ (fun wd hwd hH=>?_)
    have DW:=Lh (show Below wr.heap.size wr wd from by rw [hwd];exact (Below.refl _ _).drew)
    clear hwd
    refine tS 0 rfl ?_ hH ?_ ?_
    rotate_left
    · (intro wx hx;obtain⟨_,_⟩:=hx;go_simp <;> with_reducible rfl)
    try simp only [Act.put,pA9,pZ9,pS9]
    refine tS 1 rfl ?_ hH ?_ ?_
    rotate_left
    · (intro wx hx;obtain⟨_,_⟩:=hx;go_simp <;> with_reducible rfl)
    try simp only [Act.put,pA9,pZ9,pS9]
    refine tS 2 rfl ?_ hH ?_ ?_
    rotate_left
    · (intro wx hx;obtain⟨_,_⟩:=hx;go_simp <;> with_reducible rfl)
    try simp only [Act.put,pA9,pZ9,pS9]
    refine wpAnyT_stay 3 rfl (by kernel_rfl) (fun _ _ _ h=>h) (yields_load_at rfl 67 (.tmp 18) rfl (ad.add (k*2)) [Value.int .i64 p,Value.int .i64 q] _ rfl (fun w' hw' j' v hv=>hw'.1 j' v hv) Tryz.underlying67 rfl rfl) ⟨hH.1,fun _=>hH.2⟩ ?_
    try simp only [Act.put,pA9,pZ9,pS9]
    refine tS 4 rfl ?_ hH ?_ ?_
    rotate_left
    · (intro wx hx;obtain⟨_,_⟩:=hx;go_simp <;> with_reducible rfl)
    try simp only [Act.put,pA9,pZ9,pS9]
    refine tS 5 rfl ?_ hH ?_ ?_
    rotate_left
    · (intro wx hx;obtain⟨_,_⟩:=hx;go_simp <;> with_reducible rfl)
    try simp only [Act.put,pA9,pZ9,pS9]
    refine tS 6 rfl ?_ hH ?_ ?_
    rotate_left
    · (intro wx hx;obtain⟨_,_⟩:=hx;go_simp <;> with_reducible rfl)
    try simp only [Act.put,pA9,pZ9,pS9]
    refine wpAnyT_stay 7 rfl (by kernel_rfl) (fun _ _ _ h=>h) (yields_load_at rfl 67 (.tmp 22) rfl (ae.add (k*2)) [Value.int .i64 p,Value.int .i64 q] _ rfl (fun w' hw' j' v hv=>hw'.2 j' v hv) Tryz.underlying67 rfl rfl) ⟨hH.1,fun _=>hH.2⟩ ?_
    try simp only [Act.put,pA9,pZ9,pS9]
    refine wpAnyT_last 8 rfl (by kernel_rfl) (by decide) (fun K hQ=>?_)
    go_simp
    refine hQ.out _ _ ?_ (fun hH8=>?_)
    · exact hH.1
    clear hQ K
    try simp only [Act.put,pA9,pZ9,pS9]
    refine wpAnyT_done (by kernel_rfl) ?_ _
    clear hH hH8
    go_wp2
    exact⟨⟨k+1,by omega,by go_num,Lh (HB.out.trans (DW.out.mono HB.out.size))⟩,by simp [intOf];omega⟩
  · obtain rfl:k=n:=by omega
    go_wp2
    go_ret
    exact⟨rfl,HB.out⟩
end
end Go.Proofs.YtdoneomahlfkbaaGreat
