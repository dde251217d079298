/- put, drop (buttress/api.Session). (printed by gen_meg.py); THE MACHINE: sessions remembered, intents found and given up, objects that go. (printed by -/
import Derived.Test.YtdoneomahlfkbaaGreatOnc02
import Derived.Test.YtdoneomahlfkbaaGreatOnc08
import Derived.Test.YtdoneomahlfkbaaGreatOnc03
import Derived.Test.YtdoneomahlfkbaaGreatOnc06
import Derived.Test.YtdoneomahlfkbaaGreatOnc07
set_option linter.unusedVariables false
set_option linter.unusedSimpArgs false
set_option maxRecDepth 100000
set_option maxHeartbeats 8000000
namespace Go.Proofs.YtdoneomahlfkbaaGreat
section
open Go.RowKit OctMath
theorem llSes:∀m:SesT,(sesL m).length=5:=fun _=>rfl
theorem oneSes (ms:List SesT):OneC (ms.flatMap sesL):=fun u hu=>by
 obtain⟨m,_,hm⟩:=List.mem_flatMap.1 hu
 have h:(sesL m).all (·.oneCell')=true:=rfl
 exact List.all_eq_true.1 h u hm
theorem Tryz.szSes:(Tryz.prog.info? 92).map (·.size)=some 5:=by kernel_rfl
theorem Tryz.sbSes:(Tryz.prog.info? 92).map (fun i=>(i.zero.map (·.cells.size),i.size))=some (some 5,5):=by kernel_rfl
theorem putSes (A:Option Addr) (n cap:Nat) (ms:List SesT) (m:SesT) (kb:Nat) (k:Nat) (w:World) (hr:Hid (Reads w w.heap.size 5 A n (ms.flatMap sesL))) (hl:Hid (ms.length=n)) (hn:n≤33554432) (hc:Hid (CapSes w kb k)) (hm:Hid (∀m ∈ ms,True)) (hk1:True) :
 Calls Tryz.prog 89 #[.slice A n cap,.agg (sesCs m),.func (.func 121) #[] #[.pointer (some ⟨kb,0,none⟩)]] w (RetRow 92 5 (putB (fL (cmpSes k) ms) m ms).length ((putB (fL (cmpSes k) ms) m ms).flatMap sesL) w):=by
 obtain⟨p,ep⟩:∃p,bsP (fL (cmpSes k) ms) n=p:=⟨_,rfl⟩
 have hpn:p≤n:=by rw [← ep];exact bsP_le _ _
 have HFW:=Lh (fun W h1 h2=>findSes A n cap ms kb k W h1 hl (by omega) h2 hm hk1)
 have HKL:=Lh hc.out.lt
 have HW:=Lh (show (sesCs m).size=5 from rfl)
 have HY1:=Lh (show (sesCs m).toList.all (·.oneCell')=true from rfl)
 have HLS:=Lh (show sesL m=(sesCs m).toList from rfl)
 obtain⟨cs,ecs⟩:∃cs,sesCs m=cs:=⟨_,rfl⟩
 have HBX:=Lh (Blk.new w 92 cs)
 have hb0:Below w.heap.size w (w.alloc (.cells cs 92)):=(Below.refl _ _).alloc (Nat.le_refl _) _
 have HR0:=Lh (hr.out.later hb0)
 have HC0:Hid (CapSes (w.alloc (.cells cs 92)) kb k):=Lh (Blk.below hc.out hb0 HKL.out)
 rw [ecs] at HW HY1 HLS ⊢
 clear ecs hb0
 cases eb:bsB (fL (cmpSes k) ms) n with
 | true =>
   have hp:p<n:=by rw [← ep];exact bsB_lt eb
   have HCELLS:=Lh (put_cells_old llSes (x:=m) (f:=(fL (cmpSes k) ms)) (ms:=ms) (by rw [hl.out];exact eb))
   have HLEN:=Lh (show (putB (fL (cmpSes k) ms) m ms).length=n from by rw [putB_len,hl.out,eb,if_pos rfl])
   rw [ep,eb] at HFW
   have EP:=Lh ep
   clear ep eb
   go_enter Tryz.func89,Tryz.ntmps89
   go_wp2_with (refine (HFW.out _ HR0 HC0).mono ?_;rintro e w1 ⟨rfl,hb⟩)
   have HBY:=Lh (HBX.out.below hb HBX.out.lt)
   have HR1:=Lh (HR0.out.later hb)
   have HB1:=Lh (show Below w.heap.size w w1 from ((Below.refl _ _).alloc (Nat.le_refl _) _).trans (hb.mono (by simp)))
   have HSZ:=Lh (show w.heap.size<w1.heap.size from by have:=hb.size;simp at this;omega)
   clear hb HBX HR0 HC0
   go_wp2_with (first
    | (go_at_call 123;refine (cloneSes A n cap _ _ HR1 (Lh (oneSes ms)) (by omega)).mono ?_;rintro e w2 ⟨v,rfl,ho,hb⟩;obtain⟨g,c,rfl⟩:=own_form ho (by omega);have HO:=Lh ho;have HBZ:=Lh (HBY.out.below hb HBY.out.lt);have HB2:=Lh hb;clear ho hb HBY)
    | (refine wpl_load_blk rfl 92 (.tmp 4) rfl w.heap.size 92 cs _ rfl HBZ.out Tryz.underlying92 rfl (Tryz.szSes.trans (congrArg some HW.out.symm)) ?_)
    | (refine wpl_store_own rfl 92 (.tmp 21) (.tmp 20) rfl w1.heap.size w1 5 n g c p _ cs rfl rfl HO.out HB2.out hp HW.out Tryz.szSes HY1.out ?_;intro w3 hh))
   go_ret
   refine⟨_,rfl,?_,HB1.out.trans (hh.out.2.1.mono HB1.out.size)⟩
   have h:=HCELLS.out
   rw [hl.out,EP.out,HLS.out] at h
   rw [HLEN.out,← h]
   exact ownBas hh.out.1 HB1.out.size
 | false =>
   have HCELLS:=Lh (put_cells_new llSes (x:=m) (f:=(fL (cmpSes k) ms)) (ms:=ms) (by rw [hl.out];exact eb))
   have HLEN:=Lh (show (putB (fL (cmpSes k) ms) m ms).length=n+1 from by rw [putB_len,hl.out,eb];rfl)
   rw [ep,eb] at HFW
   have EP:=Lh ep
   clear ep eb
   go_enter Tryz.func89,Tryz.ntmps89
   go_wp2_with (refine (HFW.out _ HR0 HC0).mono ?_;rintro e w1 ⟨rfl,hb⟩)
   have HBY:=Lh (HBX.out.below hb HBX.out.lt)
   have HR1:=Lh (HR0.out.later hb)
   have HB1:=Lh (show Below w.heap.size w w1 from ((Below.refl _ _).alloc (Nat.le_refl _) _).trans (hb.mono (by simp)))
   have HSZ:=Lh (show w.heap.size<w1.heap.size from by have:=hb.size;simp at this;omega)
   clear hb HBX HR0 HC0
   go_wp2_with fail
   refine wp_region_late (S0:=fun w'=>Blk w' w.heap.size 92 cs) (S:=fun _=>True) 6 7 (by kernel_rfl) rfl ⟨HBY.out.drew,trivial⟩ (fun wd hwd hH=>?_)
   have DW:=Lh (show Below w1.heap.size w1 wd from by rw [hwd];exact (Below.refl _ _).drew)
   clear hwd
   refine tS 0 rfl ?_ hH ?_ ?_
   rotate_left
   · (intro wy hx;go_simp <;> with_reducible rfl)
   try simp only [Act.put,pA9,pZ9,pS9]
   refine tS 2 rfl ?_ hH ?_ ?_
   rotate_left
   · (intro wy hx;go_simp <;> with_reducible rfl)
   try simp only [Act.put,pA9,pZ9,pS9]
   refine wpAnyT_stay 3 rfl (by kernel_rfl) (fun _ _ _ h=>h) (yields_load_blk rfl 92 (.tmp 4) rfl w.heap.size 92 cs _ rfl (fun w' hw'=>hw') Tryz.underlying92 rfl (Tryz.szSes.trans (congrArg some HW.out.symm))) ⟨hH.1,fun _=>hH.2⟩ ?_
   try simp only [Act.put,pA9,pZ9,pS9]
   refine wpAnyT_two 1 4 rfl rfl (by kernel_rfl) (fun K hQ=>?_) (fun K hQ=>?_)
   · go_simp
     (go_at_call 123;refine (cloneSes A n cap _ _ (Lh (HR1.out.later DW.out)) (Lh (oneSes ms)) (by omega)).mono ?_;rintro e w5 ⟨v,rfl,ho,hb⟩)
     have HO:=Lh ho
     have HB5:=Lh hb
     clear ho hb
     refine hQ.out _ _ ⟨hH.1.below HB5.out hH.1.lt,trivial⟩ (fun hH1=>?_)
     clear hQ K
     try simp only [Act.put,pA9,pZ9,pS9]
     refine wpAnyT_one 4 rfl (by kernel_rfl) (fun K hQ=>?_)
     rw [if_pos (by rfl)]
     refine wp_build1g 31 92 (.tmp 26) rfl 5 (by decide) (by decide) cs HW.out rfl Tryz.underlying31 Tryz.sbSes ?_
     try simp only [Act.put,pA9,pZ9,pS9]
     refine hQ.out _ _ ⟨hH1.1.alloc _,trivial⟩ (fun hH2=>?_)
     clear hQ K
     try simp only [Act.put,pA9,pZ9,pS9]
     have NB:=Lh (Blk.new w5 92 cs)
     have HO2:=Lh (HO.out.alloc (.cells cs 92))
     have HB6:=Lh (show Below wd.heap.size wd (w5.alloc (.cells cs 92)) from HB5.out.alloc HB5.out.size _)
     have HNE:=Lh (show v.ownBlock≠some w5.heap.size from fun e=>by have:=(HO.out.lt _ e).2;omega)
     obtain⟨w6,ew6⟩:∃w6,w5.alloc (.cells cs 92)=w6:=⟨_,rfl⟩
     have HS6:=Lh (show wd.heap.size≤w6.heap.size from by rw [← ew6];exact HB6.out.size)
     rw [ew6] at NB HO2 HB6 hH2 ⊢
     clear ew6
     obtain⟨vb,evb⟩:∃vb,w5.heap.size=vb:=⟨_,rfl⟩
     rw [evb] at NB HNE ⊢
     clear evb
     refine wpAnyT_one 5 rfl (by kernel_rfl) (fun K hQ=>?_)
     rw [if_pos (by rfl)]
     go_simp
     (go_at_call 124;refine (insSes wd.heap.size v n (ms.flatMap sesL) p vb cs wd _ (Lh HO2.out) (Lh (oneSes ms)) (Lh HB6.out) HS6.out (Lh NB.out) HW (Lh (List.all_eq_true.1 HY1.out)) HNE.out hpn (by omega)).mono ?_;rintro e w7 ⟨v',rfl,ho',hb'⟩)
     have HO7:=Lh ho'.out
     have HB7:=Lh hb'
     clear ho' hb'
     refine hQ.out _ _ ⟨hH.1.below HB7.out hH.1.lt,trivial⟩ (fun hH3=>?_)
     clear hQ K
     try simp only [Act.put,pA9,pZ9,pS9]
     refine wpAnyT_last 6 rfl (by kernel_rfl) (by decide) (fun K hQ=>?_)
     go_simp
     refine hQ.out _ _ hH3.1 (fun hH4=>?_)
     clear hQ K
     try simp only [Act.put,pA9,pZ9,pS9]
     refine wpAnyT_done (by kernel_rfl) ?_ _
     clear hH hH1 hH2 hH3 hH4
     go_wp2
     go_ret
     refine⟨_,rfl,?_,?_⟩
     · have h:=HCELLS.out
       rw [hl.out,EP.out,HLS.out] at h
       rw [HLEN.out,← h]
       exact ownBas HO7.out (Nat.le_trans HB1.out.size DW.out.size)
     · exact (HB1.out.trans (DW.out.mono HB1.out.size)).trans (HB7.out.mono (Nat.le_trans HB1.out.size DW.out.size))
   · rw [if_pos (by rfl)]
     refine wp_build1g 31 92 (.tmp 26) rfl 5 (by decide) (by decide) cs HW.out rfl Tryz.underlying31 Tryz.sbSes ?_
     try simp only [Act.put,pA9,pZ9,pS9]
     refine hQ.out _ _ ⟨hH.1.alloc _,trivial⟩ (fun hH1=>?_)
     clear hQ K
     try simp only [Act.put,pA9,pZ9,pS9]
     have NB:=Lh (Blk.new wd 92 cs)
     have HBA:=Lh (show Below wd.heap.size wd (wd.alloc (.cells cs 92)) from (Below.refl _ _).alloc (Nat.le_refl _) _)
     have HS6:=Lh (show wd.heap.size<(wd.alloc (.cells cs 92)).heap.size from by simp)
     obtain⟨w4,ew4⟩:∃w4,wd.alloc (.cells cs 92)=w4:=⟨_,rfl⟩
     rw [ew4] at NB HBA HS6 hH1 ⊢
     clear ew4
     obtain⟨vb,evb⟩:∃vb,wd.heap.size=vb:=⟨_,rfl⟩
     have EVB:=Lh evb
     rw [evb] at NB HS6 ⊢
     clear evb
     refine wpAnyT_one 1 rfl (by kernel_rfl) (fun K hQ=>?_)
     rw [if_pos (by rfl)]
     go_simp
     (go_at_call 123;refine (cloneSes A n cap _ _ (Lh (HR1.out.later (DW.out.trans (HBA.out.mono DW.out.size)))) (Lh (oneSes ms)) (by omega)).mono ?_;rintro e w5 ⟨v,rfl,ho,hb⟩)
     have HO:=Lh ho
     have HB5:=Lh hb
     clear ho hb
     have NB5:=Lh (NB.out.below HB5.out HS6.out)
     have HB6:=Lh (show Below wd.heap.size wd w5 from HBA.out.trans (HB5.out.mono HBA.out.size))
     have HNE:=Lh (show v.ownBlock≠some vb from fun e=>by have:=(HO.out.lt _ e).1;have:=HS6.out;omega)
     refine hQ.out _ _ ⟨hH1.1.below HB5.out hH1.1.lt,trivial⟩ (fun hH2=>?_)
     clear hQ K
     try simp only [Act.put,pA9,pZ9,pS9]
     refine wpAnyT_one 5 rfl (by kernel_rfl) (fun K hQ=>?_)
     rw [if_pos (by rfl)]
     go_simp
     (go_at_call 124;refine (insSes w4.heap.size v n (ms.flatMap sesL) p vb cs w4 _ (Lh HO.out) (Lh (oneSes ms)) (Lh HB5.out) HB5.out.size (Lh NB5.out) HW (Lh (List.all_eq_true.1 HY1.out)) HNE.out hpn (by omega)).mono ?_;rintro e w7 ⟨v',rfl,ho',hb'⟩)
     have HO7:=Lh ho'.out
     have HB7:=Lh (HBA.out.trans (hb'.mono HBA.out.size))
     clear ho' hb'
     refine hQ.out _ _ ⟨hH.1.below HB7.out hH.1.lt,trivial⟩ (fun hH3=>?_)
     clear hQ K
     try simp only [Act.put,pA9,pZ9,pS9]
     refine wpAnyT_last 6 rfl (by kernel_rfl) (by decide) (fun K hQ=>?_)
     go_simp
     refine hQ.out _ _ hH3.1 (fun hH4=>?_)
     clear hQ K
     try simp only [Act.put,pA9,pZ9,pS9]
     refine wpAnyT_done (by kernel_rfl) ?_ _
     clear hH hH1 hH2 hH3 hH4
     go_wp2
     go_ret
     refine⟨_,rfl,?_,?_⟩
     · have h:=HCELLS.out
       rw [hl.out,EP.out,HLS.out] at h
       rw [HLEN.out,← h]
       exact ownBas HO7.out (Nat.le_trans (Nat.le_trans HB1.out.size DW.out.size) HBA.out.size)
     · exact (HB1.out.trans (DW.out.mono HB1.out.size)).trans (HB7.out.mono (Nat.le_trans HB1.out.size DW.out.size))
end
section
open Go.RowKit OctMath
def TurnM (G:List Nat) (g:Nat) (X:MetT) (w w':World):Prop:=w.grownBy w' (some g)∧∃m',MS G g m' w'∧m'.x=X
theorem TurnM.mk {G:List Nat} {g:Nat} {m':MM} {w w':World} (h:w.grownBy w' (some g)) (k:MS G g m' w') {X:MetT} (e:m'.x=X):TurnM G g X w w':=⟨h,m',k,e⟩
theorem find_mm {α β K:Type} {o:SOrd K} {key:α→K} {g:β→α} {ms:List β} {xs:List α} (e:ms.map g=xs) (h:Ris o key xs) (k:K) :
 (bsB (fL (cmpO o (fun m=>key (g m)) k) ms) ms.length=true∧∃y,ms[bsP (fL (cmpO o (fun m=>key (g m)) k) ms) ms.length]?=some y∧findR o key k xs=some (g y)) ∨
 (bsB (fL (cmpO o (fun m=>key (g m)) k) ms) ms.length=false∧findR o key k xs=none):=by
 subst e
 have hr:Ris o (fun m=>key (g m)) ms:=ris_map g h
 have hf:=findB_eq hr k
 rw [← findR_map g k ms,hf]
 cases hb:bsB (fL (cmpO o (fun m=>key (g m)) k) ms) ms.length with
 | true =>
   have hp:=bsB_lt hb
   refine .inl ⟨rfl,_,List.getElem?_eq_getElem hp,?_⟩
   rw [if_pos rfl,List.getElem?_eq_getElem hp]
   rfl
 | false=>exact .inr ⟨rfl,by rw [if_neg (by decide)];rfl⟩
def iZ:Array Value:=#[.string ⟨#[]⟩,.int .u64 0,.int .i64 0,.int .u32 0,.int .i64 0,.int .u64 0,.slice none 0 0,.int .u64 0,.int .u64 0]
theorem remember_any (G:List Nat) (g:Nat) (m:MM) (s:SesT) (w:World) (hM:Hid (MS G g m w)) (hR:Hid (Ris natO SesT.client m.x.sess)) (hl:m.x.sess.length+1≤16777216) :
 Calls Tryz.prog 54 #[.pointer (some ⟨g,0,none⟩),.agg (sesCs s)] w fun e w'=>e = .returned (.tuple #[])∧TurnM G g (putSess m.x s) w w':=by
 obtain⟨ss,ess⟩:∃ss,m.x.sess=ss:=⟨_,rfl⟩
 rw [ess] at hl
 have HGL:=Lh hM.out.blk.lt
 have HRS:=Lh hM.out.inn.rows.sess.rd
 have ESS:=Lh ess
 unfold sesCs
 go_enter Tryz.func54,Tryz.ntmps54
 go_wp2_with fail
 have hb0:Below w.heap.size w (w.alloc (.cells (sesCs s) 92)):=(Below.refl _ _).alloc (Nat.le_refl _) _
 have hB:=Blk.new w 92 (sesCs s)
 have hs1:(w.alloc (.cells (sesCs s) 92)).heap.size=w.heap.size+1:=by simp
 obtain⟨w1,ew1⟩:∃w1,w.alloc (.cells (sesCs s) 92)=w1:=⟨_,rfl⟩
 rw [ew1] at hb0 hB hs1
 have ew1':w.alloc (.cells #[.int .u64 (s.client:Int),.int .u64 (s.seq:Int),.bool s.opn,.int .u64 (s.version:Int),.int .i64 s.code] 92)=w1:=ew1
 rw [ew1']
 have HB0:=Lh hb0
 have HB:=Lh hB
 have HM1:=Lh (hM.out.later hb0)
 have HS1:=Lh hs1
 clear hb0 hB hs1 ew1 ew1' ess
 obtain⟨b0,e0⟩:∃b0,w.heap.size=b0:=⟨_,rfl⟩
 have E0:=Lh e0
 rw [e0] at HB HGL HS1 ⊢
 clear e0
 refine wp_region_late (S0:=fun w'=>Blk w' b0 92 (sesCs s)∧w'.cell? ⟨b0,0,none⟩=some (.int .u64 (s.client:Int))) (S:=fun w'=>w'.cell? ⟨g,10,none⟩=some (.slice m.SA ss.length m.sc)) 14 15 (by kernel_rfl) rfl ⟨⟨HB.out.drew,HB.out.cell 0⟩,by rw [← ESS.out];exact HM1.out.blk.cell 10⟩ (fun wd hwd hH=>?_)
 have DW:=Lh (show Below w1.heap.size w1 wd from by rw [hwd];exact (Below.refl _ _).drew)
 clear hwd
 have HMD:=Lh (HM1.out.later DW.out)
 have HBD:=Lh (HB.out.below DW.out HB.out.lt)
 clear HM1 HB
 refine tS 0 rfl ?_ hH ?_ ?_
 rotate_left
 · (intro wx hx;obtain⟨_,_⟩:=hx;go_simp <;> with_reducible rfl)
 try simp only [Act.put,pA9,pZ9,pS9]
 refine tS 1 rfl ?_ hH ?_ ?_
 rotate_left
 · (intro wx hx;obtain⟨_,_⟩:=hx;go_simp <;> with_reducible rfl)
 try simp only [Act.put,pA9,pZ9,pS9]
 refine tS 2 rfl ?_ hH ?_ ?_
 rotate_left
 · (intro wx hx;obtain⟨_,_⟩:=hx;go_simp <;> with_reducible rfl)
 try simp only [Act.put,pA9,pZ9,pS9]
 refine tS 3 rfl ?_ hH ?_ ?_
 rotate_left
 · (intro wx hx;obtain⟨_,_⟩:=hx;go_simp <;> with_reducible rfl)
 try simp only [Act.put,pA9,pZ9,pS9]
 refine tS 4 rfl ?_ hH ?_ ?_
 rotate_left
 · (intro wx hx;obtain⟨_,_⟩:=hx;go_simp <;> with_reducible rfl)
 try simp only [Act.put,pA9,pZ9,pS9]
 refine wpAnyT_take 5 (v:=?_) rfl (by kernel_rfl) (fun _ _ _ h=>h) (Or.inl ⟨by rfl,?_⟩) hH ?_
 rotate_left
 · (intro wx hx;go_simp <;> with_reducible rfl)
 try simp only [Act.put,pA9,pZ9,pS9]
 refine wpAnyT_stay 6 rfl (by kernel_rfl) (fun _ _ _ h=>h) (yields_load_blk rfl 92 (.tmp 3) rfl b0 92 (sesCs s) _ rfl (fun w' hw'=>hw'.1) Tryz.underlying92 rfl rfl) ⟨hH.1,fun _=>hH.2⟩ ?_
 try simp only [Act.put,pA9,pZ9,pS9]
 refine tS 7 rfl ?_ hH ?_ ?_
 rotate_left
 · (intro wx hx;obtain⟨_,_⟩:=hx;go_simp <;> with_reducible rfl)
 try simp only [Act.put,pA9,pZ9,pS9]
 refine tS 8 rfl ?_ hH ?_ ?_
 rotate_left
 · (intro wx hx;obtain⟨_,_⟩:=hx;go_simp <;> with_reducible rfl)
 try simp only [Act.put,pA9,pZ9,pS9]
 refine wpAnyT_one 9 rfl (by kernel_rfl) (fun K hQ=>?_)
 go_simp
 (go_at_call 87;refine (mkSes s.client _).mono ?_;rintro e w8 ⟨rfl,hc8,hb8⟩)
 have HC8:=Lh hc8
 have HB8:=Lh hb8
 have HM8:=Lh (HMD.out.later hb8)
 clear hc8 hb8
 refine hQ.out _ _ ?_ (fun hH9=>?_)
 · exact⟨⟨hH.1.1.below HB8.out hH.1.1.lt,(HBD.out.below HB8.out HBD.out.lt).cell 0⟩,by rw [← ESS.out];exact HM8.out.blk.cell 10⟩
 clear hQ K
 try simp only [Act.put,pA9,pZ9,pS9]
 refine wpAnyT_one 10 rfl (by kernel_rfl) (fun K hQ=>?_)
 go_simp
 (go_at_call 89;refine (putSes m.SA ss.length m.sc ss s wd.heap.size s.client _ (Lh (by rw [← ESS.out];exact HM8.out.inn.rows.sess.rd)) (Lh rfl) (by omega) HC8 (Lh fun _ _=>trivial) trivial).mono ?_;rintro e w9 ⟨v9,rfl,ho9,hb9⟩)
 rw [show fL (cmpSes s.client) ss=fL (cmpO natO SesT.client (SesT.client s)) ss from rfl,putB_eq (by rw [← ESS.out];exact hR.out) s] at ho9
 obtain⟨A9,c9,rfl,h91,h92⟩:=own_slice ho9
 have HO9:=Lh (rowIn_own ho9)
 have HB9:=Lh hb9
 have HM9:=Lh (HM8.out.later hb9)
 have HB89:=Lh (HB8.out.trans (hb9.mono HB8.out.size))
 have z0:w9.cell? ⟨g,10,none⟩=some (.slice m.SA ss.length m.sc):=by rw [← ESS.out];exact HM9.out.blk.cell 10
 have z1:w9.frozen? ⟨g,10,none⟩=false:=HM9.out.blk.frozen 10
 clear ho9 hb9
 refine hQ.out _ _ ?_ (fun hH10=>?_)
 · exact⟨⟨hH.1.1.below HB89.out hH.1.1.lt,(HBD.out.below HB89.out HBD.out.lt).cell 0⟩,z0⟩
 clear hQ K
 try simp only [Act.put,pA9,pZ9,pS9]
 refine tS 11 rfl ?_ hH10 ?_ ?_
 rotate_left
 · (intro wx hx;obtain⟨_,_⟩:=hx;go_simp <;> with_reducible rfl)
 try simp only [Act.put,pA9,pZ9,pS9]
 refine tS 12 rfl ?_ hH10 ?_ ?_
 rotate_left
 · (intro wx hx;obtain⟨_,_⟩:=hx;go_simp <;> with_reducible rfl)
 try simp only [Act.put,pA9,pZ9,pS9]
 refine tS 13 rfl ?_ hH10 ?_ ?_
 rotate_left
 · (intro wx hx;obtain⟨_,_⟩:=hx;go_simp <;> with_reducible rfl)
 try simp only [Act.put,pA9,pZ9,pS9]
 refine wpAnyT_last 14 rfl (by kernel_rfl) (by decide) (fun K hQ=>?_)
 go_simp
 refine hQ.out _ _ ?_ (fun hH14=>?_)
 · exact⟨hH10.1.1.far (Nat.ne_of_gt HGL.out) _,(hH10.1.1.far (Nat.ne_of_gt HGL.out) _).cell 0⟩
 clear hQ K
 try simp only [Act.put,pA9,pZ9,pS9]
 refine wpAnyT_done (by kernel_rfl) ?_ _
 obtain⟨L9,eL9⟩:∃L,putR natO SesT.client s ss=L:=⟨_,rfl⟩
 have HLL:=Lh (show L9.length≤ss.length+1 from by rw [← eL9];exact put_le s ss)
 have EL9:=Lh eL9
 rw [eL9] at HO9 ⊢
 clear eL9
 have GS:=Lh (HM9.out.blk.set_ 10 (.slice A9 L9.length c9))
 have OS:=Lh (Only.set_ w9 g 10 (.slice A9 L9.length c9))
 obtain⟨wx,hwx⟩:∃wx,w9.setCell ⟨g,10,none⟩ (.slice A9 L9.length c9)=wx:=⟨_,rfl⟩
 rw [hwx] at GS OS ⊢
 clear hwx z0 z1 hH hH9 hH10 hH14
 have HX:=Lh (HM9.out.setS (gb_only OS.out) GS.out (HO9.out.1.grown (HO9.out.2 g (by have:=HM8.out.blk.lt;omega)) (gb_only OS.out)) (fun q hq=>HO9.out.2 q (HM8.out.lt q hq)) (by have:=HLL.out;omega))
 have HGX:=Lh (gb_trans (gb_trans (gb_trans (gb_below HB0.out (some g)) (gb_below DW.out _)) (gb_below HB89.out _)) (gb_only OS.out))
 go_wp2_with fail
 go_end0
 refine⟨rfl,TurnM.mk HGX.out HX.out ?_⟩
 show ({ m.x with sess:=L9 }:MetT)=putSess m.x s
 rw [← EL9.out,← ESS.out]
 rfl
theorem intent_any (G:List Nat) (g:Nat) (m:MM) (v:Nat) (w:World) (hM:Hid (MS G g m w)) (hR:Hid (Ris natO verI m.x.ints)) :
 Calls Tryz.prog 55 #[.pointer (some ⟨g,0,none⟩),.int .u64 (v:Int)] w fun e w'=>Below w.heap.size w w'∧((findR natO verI v m.x.ints=none∧e = .returned (.tuple #[.agg iZ,.bool false]))∨∃i ∈ m.is,findR natO verI v m.x.ints=some i.x∧e = .returned (.tuple #[.agg (iA i),.bool true])):=by
 have HLI:=Lh hM.out.inn.ilen
 obtain⟨n,en⟩:∃n,m.x.ints.length=n:=⟨_,rfl⟩
 have EN:=Lh en
 have hn:n≤16777216:=by rw [← en];exact hM.out.inn.wf.il
 have hfm:=find_mm (o:=natO) (key:=verI) hM.out.inn.is hR.out v
 obtain⟨p,ep⟩:∃p,bsP (fL (cmpO natO (fun i:IM=>verI i.x) v) m.is) m.is.length=p:=⟨_,rfl⟩
 obtain⟨b,eb⟩:∃b,bsB (fL (cmpO natO (fun i:IM=>verI i.x) v) m.is) m.is.length=b:=⟨_,rfl⟩
 have HFW:=Lh (fun W kb h1 h2=>findItt m.IA n m.ic m.is kb v W h1 (Lh (by rw [HLI.out,en])) (by omega) h2 (Lh fun _ _=>trivial) trivial)
 rw [show cmpItt v=cmpO natO (fun i:IM=>verI i.x) v from rfl,show n=m.is.length from by rw [HLI.out,en]] at HFW
 rw [ep,eb] at HFW
 simp only [ep,eb] at hfm
 have HFM:=Lh hfm
 rw [show m.is.length=n from by rw [HLI.out,en]] at HFW
 have HGL:=Lh hM.out.blk.lt
 clear hfm ep eb en
 go_enter Tryz.func55,Tryz.ntmps55
 go_wp2_with fail
 have hb0:Below w.heap.size w (w.alloc (.cells iZ 60)):=(Below.refl _ _).alloc (Nat.le_refl _) _
 have hB:=Blk.new w 60 iZ
 obtain⟨w1,ew1⟩:∃w1,w.alloc (.cells iZ 60)=w1:=⟨_,rfl⟩
 rw [ew1] at hb0 hB
 have ew1':w.alloc (.cells #[.string ⟨#[]⟩,.int .u64 0,.int .i64 0,.int .u32 0,.int .i64 0,.int .u64 0,.slice none 0 0,.int .u64 0,.int .u64 0] 60)=w1:=ew1
 rw [ew1']
 have HB0:=Lh hb0
 have HB:=Lh hB
 have HM1:=Lh (hM.out.later hb0)
 clear hb0 hB ew1 ew1'
 refine wp_region_late (S0:=fun w'=>w'.cell? ⟨g,9,none⟩=some (.slice m.IA n m.ic)) (S:=fun _=>True) 12 13 (by kernel_rfl) rfl ⟨(HM1.out.blk.cell 9).trans (by rw [← EN.out];rfl),trivial⟩ (fun wd hwd hH=>?_)
 have DW:=Lh (show Below w1.heap.size w1 wd from by rw [hwd];exact (Below.refl _ _).drew)
 clear hwd
 have HMD:=Lh (HM1.out.later DW.out)
 clear HM1
 refine tS 0 rfl ?_ hH ?_ ?_
 rotate_left
 · (intro wx hx;go_simp <;> with_reducible rfl)
 try simp only [Act.put,pA9,pZ9,pS9]
 refine tS 1 rfl ?_ hH ?_ ?_
 rotate_left
 · (intro wx hx;go_simp <;> with_reducible rfl)
 try simp only [Act.put,pA9,pZ9,pS9]
 refine tS 2 rfl ?_ hH ?_ ?_
 rotate_left
 · (intro wx hx;go_simp <;> with_reducible rfl)
 try simp only [Act.put,pA9,pZ9,pS9]
 refine tS 3 rfl ?_ hH ?_ ?_
 rotate_left
 · (intro wx hx;go_simp <;> with_reducible rfl)
 try simp only [Act.put,pA9,pZ9,pS9]
 refine tS 4 rfl ?_ hH ?_ ?_
 rotate_left
 · (intro wx hx;go_simp <;> with_reducible rfl)
 try simp only [Act.put,pA9,pZ9,pS9]
 refine tS 5 rfl ?_ hH ?_ ?_
 rotate_left
 · (intro wx hx;go_simp <;> with_reducible rfl)
 try simp only [Act.put,pA9,pZ9,pS9]
 refine wpAnyT_one 6 rfl (by kernel_rfl) (fun K hQ=>?_)
 go_simp
 (go_at_call 57;refine (mkItt v _).mono ?_;rintro e w8 ⟨rfl,hc8,hb8⟩)
 have HC8:=Lh hc8
 have HB8:=Lh hb8
 have HM8:=Lh (HMD.out.later hb8)
 clear hc8 hb8
 refine hQ.out _ _ ?_ (fun hH6=>?_)
 · exact⟨(HM8.out.blk.cell 9).trans (by rw [← EN.out];rfl),trivial⟩
 clear hQ K
 try simp only [Act.put,pA9,pZ9,pS9]
 refine wpAnyT_one 7 rfl (by kernel_rfl) (fun K hQ=>?_)
 go_simp
 (go_at_call 85;refine (HFW.out _ wd.heap.size (Lh (by have:=HM8.out.inn.rows.ints.rd;unfold MM.ints at this;rw [EN.out] at this;exact this)) HC8).mono ?_;rintro e w9 ⟨rfl,hb9⟩)
 have HB9:=Lh hb9
 have HM9:=Lh (HM8.out.later hb9)
 have HB89:=Lh (HB8.out.trans (hb9.mono HB8.out.size))
 clear hb9
 refine hQ.out _ _ ?_ (fun hH7=>?_)
 · exact⟨(HM9.out.blk.cell 9).trans (by rw [← EN.out];rfl),trivial⟩
 clear hQ K
 try simp only [Act.put,pA9,pZ9,pS9]
 refine tS 8 rfl ?_ hH7 ?_ ?_
 rotate_left
 · (intro wx hx;go_simp <;> with_reducible rfl)
 try simp only [Act.put,pA9,pZ9,pS9]
 refine tS 9 rfl ?_ hH7 ?_ ?_
 rotate_left
 · (intro wx hx;go_simp <;> with_reducible rfl)
 try simp only [Act.put,pA9,pZ9,pS9]
 refine tS 10 rfl ?_ hH7 ?_ ?_
 rotate_left
 · (intro wx hx;go_simp <;> with_reducible rfl)
 try simp only [Act.put,pA9,pZ9,pS9]
 refine tS 11 rfl ?_ hH7 ?_ ?_
 rotate_left
 · (intro wx hx;go_simp <;> with_reducible rfl)
 try simp only [Act.put,pA9,pZ9,pS9]
 refine wpAnyT_last 12 rfl (by kernel_rfl) (by decide) (fun K hQ=>?_)
 go_simp
 refine hQ.out _ _ ?_ (fun hH12=>?_)
 · exact hH7.1
 clear hQ K
 try simp only [Act.put,pA9,pZ9,pS9]
 refine wpAnyT_done (by kernel_rfl) ?_ _
 clear hH hH6 hH7 hH12
 have HB19:=Lh (DW.out.trans (HB89.out.mono DW.out.size))
 have HB9:=Lh (HB.out.below HB19.out HB.out.lt)
 have HBF:=Lh (HB0.out.trans (HB19.out.mono HB0.out.size))
 clear HB HMD HM8 HC8 DW HB8 HB89
 cases b with
 | true =>
   obtain⟨i,hpi,hf⟩:∃i,m.is[p]?=some i∧findR natO verI v m.x.ints=some i.x:=by
    rcases HFM.out with ⟨_,h1⟩ | ⟨h1,_⟩
    · exact h1
    · cases h1
   obtain⟨hp,ei⟩:=List.getElem?_eq_some_iff.1 hpi
   have hpn:p<n:=by rw [← EN.out,← HLI.out];exact hp
   obtain⟨ia,eia,iab,icc⟩:=elem_cells (cells:=imCs) (K:=9) (fun _=>rfl) HM9.out.inn.rows.ints.rd hp (by show 0<m.x.ints.length;rw [EN.out];omega)
   have hmem:m.is[p] ∈ m.is:=List.getElem_mem hp
   rw [ei] at icc hmem
   have c9:w9.cell? ⟨g,9,none⟩=some (.slice (some ia) n m.ic):=(HM9.out.blk.cell 9).trans (by rw [← EN.out,← show m.IA=some ia from eia];rfl)
   have ICC:=Lh icc
   have HF:=Lh (And.intro hmem hf)
   clear icc hf hmem ei eia iab hp hpi HFM
   go_wp2_with (first
    | (refine wpl_load_at rfl 60 (.tmp 26) rfl (ia.add (p*9)) (imCs i) _ rfl ICC.out Tryz.underlying60 rfl rfl ?_)
    | (refine wpl_store_blk rfl 60 (.tmp 4) (.tmp 27) rfl w.heap.size 60 iZ (iA i) rfl rfl HB9.out rfl Tryz.szItt rfl ?_;intro w10 hB10 hO10))
   exact bodyPost_ret (v := .tuple #[.agg (iA i),.bool true]) (res_ct Tryz.results55 rfl rfl (load_blk hB10.out Tryz.underlying60 rfl Tryz.szItt)) rfl ⟨HBF.out.trans (hO10.out.below (Nat.le_refl _)),.inr ⟨i,HF.out.1,HF.out.2,rfl⟩⟩
 | false =>
   have hf:findR natO verI v m.x.ints=none:=by
    rcases HFM.out with ⟨h1,_⟩ | ⟨_,h1⟩
    · cases h1
    · exact h1
   have HF:=Lh hf
   clear hf HFM
   go_wp2_with (first
    | (refine wpl_store_blk rfl 60 (.tmp 4) (.tmp 28) rfl w.heap.size 60 iZ iZ rfl rfl HB9.out rfl Tryz.szItt rfl ?_;intro w10 hB10 hO10))
   exact bodyPost_ret (v := .tuple #[.agg iZ,.bool false]) (res_ct Tryz.results55 rfl rfl (load_blk hB10.out Tryz.underlying60 rfl Tryz.szItt)) rfl ⟨HBF.out.trans (hO10.out.below (Nat.le_refl _)),.inl ⟨HF.out,rfl⟩⟩
end
section
open Go.RowKit OctMath
def toO (i:IM):OM:=⟨i.x.obj,i.A,i.c⟩
theorem iA_obj {w:World} {b:Nat} {t:TypeId} {i:IM} (h:Blk w b t (iA i)):∀j v,(omCs (toO i))[j]?=some v→w.cell? ((⟨b,0,none⟩:Addr).add j)=some v:=fun j v hj=>by
 have hl:j<7:=(List.getElem?_eq_some_iff.1 hj).1
 rw [addr0,h.cell,← Array.getElem?_toList]
 have e:(iA i).toList.take 7=omCs (toO i):=rfl
 rw [← e,List.getElem?_take_of_lt hl] at hj
 exact hj
theorem off_drop {g:Nat} {K n n' c c':Nat} {A A':Option Addr} {C C':List Value} {b:Nat} (h:(⟨K,A,c,n,C⟩:RowT).Off g) (hn:0<n'→0<n) (hb:g<b) (hd:0<n'→∀ad,A'=some ad→A'=A∨b≤ad.block):(⟨K,A',c',n',C'⟩:RowT).Off g:=fun h0 ad e=>by
 rcases hd h0 ad e with h1 | h1
 · exact h (hn h0) ad (by show A=some ad;rw [← h1];exact e)
 · omega
theorem drop_pos {α:Type} {f:Nat→Int} {ms:List α} (h:0<(dropB f ms).length):0<ms.length:=by
 rw [dropB_len] at h
 split at h <;> omega
theorem drop_int {ms:List IM} {xs:List IntT} (e:ms.map (fun i=>i.x)=xs) (h:Ris natO verI xs) (v:Nat):(dropB (fL (cmpItt v) ms) ms).map (fun i=>i.x)=dropR natO verI v xs:=by
 subst e
 have hr:Ris natO (fun i:IM=>verI i.x) ms:=ris_map (key:=verI) (fun i:IM=>i.x) h
 have h1:=dropB_eq hr v
 have h2:=dropR_map (o:=natO) (key:=verI) (fun i:IM=>i.x) v ms
 exact (congrArg (List.map fun i:IM=>i.x) h1).trans h2
theorem drop_obj {ms:List OM} {xs:List ObjT} (e:ms.map (fun i=>i.x)=xs) (h:Ris bytO ObjT.key xs) (v:List Nat):(dropB (fL (cmpObj v) ms) ms).map (fun i=>i.x)=dropR bytO ObjT.key v xs:=by
 subst e
 have hr:Ris bytO (fun i:OM=>ObjT.key i.x) ms:=ris_map (key:=ObjT.key) (fun i:OM=>i.x) h
 have h1:=dropB_eq hr v
 have h2:=dropR_map (o:=bytO) (key:=ObjT.key) (fun i:OM=>i.x) v ms
 exact (congrArg (List.map fun i:OM=>i.x) h1).trans h2
theorem put_obj {ms:List OM} {xs:List ObjT} (e:ms.map (fun i=>i.x)=xs) (h:Ris bytO ObjT.key xs) (y:OM):(putB (fL (cmpObj y.x.key) ms) y ms).map (fun i=>i.x)=putR bytO ObjT.key y.x xs:=by
 subst e
 have hr:Ris bytO (fun i:OM=>ObjT.key i.x) ms:=ris_map (key:=ObjT.key) (fun i:OM=>i.x) h
 have h1:=putB_eq hr y
 have h2:=putR_map (o:=bytO) (key:=ObjT.key) (fun i:OM=>i.x) y ms
 exact (congrArg (List.map fun i:OM=>i.x) h1).trans h2
theorem giveUp_any (G:List Nat) (g:Nat) (m:MM) (x:IM) (w:World) (hM:Hid (MS G g m w)) (hx:Hid ((iRow x).In w)) (hf:Hid ((iRow x).Off g)) (hn:x.x.obj.nodes.length≤255) (hR:Hid (Ris wasO (fun x=>x) m.x.wass)) (hRI:Hid (Ris natO verI m.x.ints)) (hl:m.x.wass.length+x.x.obj.nodes.length≤33554432) :
 Calls Tryz.prog 60 #[.pointer (some ⟨g,0,none⟩),.agg (iA x)] w fun e w'=>e = .returned (.tuple #[])∧TurnM G g (giveUpM m.x x.x) w w':=by
 obtain⟨cs,ecs⟩:∃cs,iA x=cs:=⟨_,rfl⟩
 have HW:=Lh (fun W (h:Hid (MS G g m W)) (h2:Hid ((oRow (toO x)).In W))=>waste_any G g m (toO x) W h h2 hf hn hR hl)
 have hb0:Below w.heap.size w (w.alloc (.cells cs 60)):=(Below.refl _ _).alloc (Nat.le_refl _) _
 have hB:=Blk.new w 60 cs
 have hM1:=hM.out.later hb0
 have hX1:=hx.out.later hb0
 have hOC:=iA_obj (i:=x) (by rw [ecs];exact hB)
 have hV:cs[1]?=some (.int .u64 (x.x.obj.version:Int)):=by rw [← ecs];rfl
 have HM1:=Lh hM1
 have HX1:Hid ((oRow (toO x)).In (w.alloc (.cells cs 60))):=Lh hX1
 have HOC:=Lh hOC
 have HV:=Lh hV
 have HB:=Lh hB
 have HB0:=Lh hb0
 have HGL:=Lh hM.out.blk.lt
 rw [ecs]
 clear hb0 hB hM1 hX1 hOC hV ecs hM hx
 go_enter Tryz.func60,Tryz.ntmps60
 go_wp2_with (first
  | (refine wpl_load_at rfl 58 (.tmp 5) rfl ⟨w.heap.size,0,none⟩ (omCs (toO x)) _ rfl HOC.out Tryz.underlying58 rfl rfl ?_)
  | (go_at_call 65;refine (HW.out _ HM1 HX1).mono ?_;rintro e w2 ⟨rfl,hgb,A2,c2,hm2⟩;have HGB:=Lh hgb;have HM2:=Lh hm2;clear hgb hm2))
 obtain⟨m2,em2⟩:∃m2,m.setW (wasteF m.x.wass (toO x).x) A2 c2=m2:=⟨_,rfl⟩
 have HX2:=Lh (show m2.x={ m.x with wass:=wasteF m.x.wass x.x.obj } from by rw [← em2];rfl)
 have HI2:=Lh (show m2.is=m.is from by rw [← em2];rfl)
 rw [em2] at HM2
 have HB2:=Lh (HB.out.gb HGB.out (Nat.ne_of_gt HGL.out))
 have hlt2:=Lh (show w.heap.size<w2.heap.size from HB2.out.lt)
 have HGB0:=Lh (gb_trans (gb_below HB0.out _) HGB.out)
 clear em2 HM1 HX1 HOC HW HB HGB HB0
 obtain⟨b0,e0⟩:∃b0,w.heap.size=b0:=⟨_,rfl⟩
 rw [e0] at HB2 HGL hlt2 ⊢
 clear e0
 have HRI2:=Lh (show Ris natO verI m2.x.ints from by rw [HX2.out];exact hRI.out)
 have HLI:=Lh HM2.out.inn.ilen
 obtain⟨n,en⟩:∃n,m2.x.ints.length=n:=⟨_,rfl⟩
 have EN:=Lh en
 have hnn:n≤16777216:=by rw [← en];exact HM2.out.inn.wf.il
 clear en
 go_wp2_with fail
 refine wp_region_late (S0:=fun w'=>w'.cell? ⟨b0,1,none⟩=some (.int .u64 (x.x.obj.version:Int))) (S:=fun w'=>w'.cell? ⟨g,9,none⟩=some (.slice m2.IA n m2.ic)) 14 15 (by kernel_rfl) rfl ⟨(HB2.out.cell 1).trans HV.out,(HM2.out.blk.cell 9).trans (by rw [← EN.out];rfl)⟩ (fun wd hwd hH=>?_)
 have DW:=Lh (show Below w2.heap.size w2 wd from by rw [hwd];exact (Below.refl _ _).drew)
 clear hwd
 have HMD:=Lh (HM2.out.later DW.out)
 have HBD:=Lh (HB2.out.below DW.out HB2.out.lt)
 clear HM2 HB2
 refine tS 0 rfl ?_ hH ?_ ?_
 rotate_left
 · (intro wx hx;go_simp <;> with_reducible rfl)
 try simp only [Act.put,pA9,pZ9,pS9]
 refine tS 1 rfl ?_ hH ?_ ?_
 rotate_left
 · (intro wx hx;go_simp <;> with_reducible rfl)
 try simp only [Act.put,pA9,pZ9,pS9]
 refine tS 2 rfl ?_ hH ?_ ?_
 rotate_left
 · (intro wx hx;go_simp <;> with_reducible rfl)
 try simp only [Act.put,pA9,pZ9,pS9]
 refine tS 3 rfl ?_ hH ?_ ?_
 rotate_left
 · (intro wx hx;go_simp <;> with_reducible rfl)
 try simp only [Act.put,pA9,pZ9,pS9]
 refine tS 4 rfl ?_ hH ?_ ?_
 rotate_left
 · (intro wx hx;go_simp <;> with_reducible rfl)
 try simp only [Act.put,pA9,pZ9,pS9]
 refine wpAnyT_take 5 (v:=?_) rfl (by kernel_rfl) (fun _ _ _ h=>h) (Or.inl ⟨by rfl,?_⟩) hH ?_
 rotate_left
 · (intro wx hx;go_simp <;> with_reducible rfl)
 try simp only [Act.put,pA9,pZ9,pS9]
 refine tS 6 rfl ?_ hH ?_ ?_
 rotate_left
 · (intro wx hx;go_simp <;> with_reducible rfl)
 try simp only [Act.put,pA9,pZ9,pS9]
 refine tS 7 rfl ?_ hH ?_ ?_
 rotate_left
 · (intro wx hx;go_simp <;> with_reducible rfl)
 try simp only [Act.put,pA9,pZ9,pS9]
 refine tS 8 rfl ?_ hH ?_ ?_
 rotate_left
 · (intro wx hx;go_simp <;> with_reducible rfl)
 try simp only [Act.put,pA9,pZ9,pS9]
 refine wpAnyT_one 9 rfl (by kernel_rfl) (fun K hQ=>?_)
 go_simp
 (go_at_call 57;refine (mkItt x.x.obj.version _).mono ?_;rintro e w8 ⟨rfl,hc8,hb8⟩)
 have HC8:=Lh hc8
 have HB8:=Lh hb8
 have HM8:=Lh (HMD.out.later hb8)
 clear hc8 hb8
 refine hQ.out _ _ ?_ (fun hH9=>?_)
 · exact⟨((HBD.out.below HB8.out HBD.out.lt).cell 1).trans HV.out,(HM8.out.blk.cell 9).trans (by rw [← EN.out];rfl)⟩
 clear hQ K
 try simp only [Act.put,pA9,pZ9,pS9]
 refine wpAnyT_one 10 rfl (by kernel_rfl) (fun K hQ=>?_)
 go_simp
 (go_at_call 56;refine (dropItt m2.IA n m2.ic m2.is wd.heap.size x.x.obj.version _ (Lh (by have:=HM8.out.inn.rows.ints.rd;unfold MM.ints at this;rw [EN.out] at this;exact this)) (Lh (by rw [HLI.out,EN.out])) (by omega) HC8 (Lh fun _ _=>trivial) trivial (by have:=HM8.out.inn.rows.ints.nc;unfold MM.ints at this;rw [EN.out] at this;exact this) HM8.out.inn.rows.ints.cm).mono ?_;rintro e w9 ⟨A9,c9,rfl,hr9,hn9,hm9,hb9,ho9⟩)
 have HR9:=Lh hr9
 have HO9:=Lh ho9
 have HN9:=Lh (And.intro hn9 hm9)
 have HM9:=Lh (HM8.out.later hb9)
 have HB89:=Lh (HB8.out.trans (hb9.mono HB8.out.size))
 have z0:w9.cell? ⟨g,9,none⟩=some (.slice m2.IA n m2.ic):=(HM9.out.blk.cell 9).trans (by rw [← EN.out];rfl)
 have z1:w9.frozen? ⟨g,9,none⟩=false:=HM9.out.blk.frozen 9
 clear hr9 ho9 hn9 hm9 hb9
 refine hQ.out _ _ ?_ (fun hH10=>?_)
 · exact⟨((HBD.out.below HB89.out HBD.out.lt).cell 1).trans HV.out,z0⟩
 clear hQ K
 try simp only [Act.put,pA9,pZ9,pS9]
 refine tS 11 rfl ?_ hH10 ?_ ?_
 rotate_left
 · (intro wx hx;go_simp <;> with_reducible rfl)
 try simp only [Act.put,pA9,pZ9,pS9]
 refine tS 12 rfl ?_ hH10 ?_ ?_
 rotate_left
 · (intro wx hx;go_simp <;> with_reducible rfl)
 try simp only [Act.put,pA9,pZ9,pS9]
 refine tS 13 rfl ?_ hH10 ?_ ?_
 rotate_left
 · (intro wx hx;go_simp <;> with_reducible rfl)
 try simp only [Act.put,pA9,pZ9,pS9]
 refine wpAnyT_last 14 rfl (by kernel_rfl) (by decide) (fun K hQ=>?_)
 go_simp
 refine hQ.out _ _ ?_ (fun hH14=>?_)
 · exact (((HBD.out.below HB89.out HBD.out.lt).far (Nat.ne_of_gt HGL.out) _).cell 1).trans HV.out
 clear hQ K
 try simp only [Act.put,pA9,pZ9,pS9]
 refine wpAnyT_done (by kernel_rfl) ?_ _
 obtain⟨L9,eL9⟩:∃L,dropB (fL (cmpItt x.x.obj.version) m2.is) m2.is=L:=⟨_,rfl⟩
 have hsub:∀i ∈ L9,i ∈ m2.is:=fun i hi=>by rw [← eL9] at hi;exact mem_dropB hi
 have hpos:0<L9.length→0<n:=fun h=>by rw [← eL9] at h;have:=drop_pos h;rw [← EN.out,← HLI.out];exact this
 have hlen:L9.length≤n:=by rw [← EN.out,← HLI.out,← eL9,dropB_len];split <;> omega
 have hmx:L9.map (·.x)=dropR natO verI x.x.obj.version m2.x.ints:=by
  rw [← eL9];exact drop_int HMD.out.inn.is HRI2.out _
 rw [eL9] at HR9 HO9 HN9 ⊢
 have SUB:=Lh hsub
 have POS:=Lh hpos
 have LEN:=Lh hlen
 have HMX:=Lh hmx
 clear eL9 hsub hpos hlen hmx
 have GS:=Lh (HM9.out.blk.set_ 9 (.slice A9 L9.length c9))
 have OS:=Lh (Only.set_ w9 g 9 (.slice A9 L9.length c9))
 obtain⟨wx,hwx⟩:∃wx,w9.setCell ⟨g,9,none⟩ (.slice A9 L9.length c9)=wx:=⟨_,rfl⟩
 rw [hwx] at GS OS ⊢
 clear hwx z0 z1 hH hH9 hH10 hH14
 have hO9:∀q ∈ G,(⟨9,A9,c9,L9.length,L9.flatMap imCs⟩:RowT).Off q:=fun q hq=>off_drop (n:=n) (by have:=(HMD.out.off q hq).ints;unfold MM.ints at this;rw [EN.out] at this;exact this) POS.out (HM8.out.lt q hq) HO9.out
 have HX:=Lh (HM9.out.setI (gb_only OS.out) GS.out ((⟨HR9.out,HN9.out.1,HN9.out.2⟩:(⟨9,A9,c9,L9.length,L9.flatMap imCs⟩:RowT).In w9).grown (hO9 g HM9.out.mem) (gb_only OS.out)) hO9 (by have:=LEN.out;omega) (fun i hi => .inl (SUB.out i hi)))
 have HGX:=Lh (gb_trans (gb_trans (gb_trans HGB0.out (gb_below DW.out _)) (gb_below HB89.out _)) (gb_only OS.out))
 go_wp2_with fail
 go_end0
 refine⟨rfl,TurnM.mk HGX.out HX.out ?_⟩
 show ({ m2.x with ints:=L9.map (·.x) }:MetT)=giveUpM m.x x.x
 rw [HMX.out,HX2.out]
 rfl
theorem away_any (G:List Nat) (g:Nat) (m:MM) (key:List Nat) (w:World) (hM:Hid (MS G g m w)) (hk:Byt key) (hR:Hid (Ris wasO (fun x=>x) m.x.wass)) (hRO:Hid (Ris bytO ObjT.key m.x.objs)) (hnd:Hid (∀o ∈ m.x.objs,o.nodes.length≤255)) (hl:m.x.wass.length+255≤33554432) :
 Calls Tryz.prog 58 #[.pointer (some ⟨g,0,none⟩),.string (strOf key)] w fun e w'=>e = .returned (.bool (awayM m.x key).2)∧TurnM G g (awayM m.x key).1 w w':=by
 have HLI:=Lh hM.out.inn.olen
 obtain⟨n,en⟩:∃n,m.x.objs.length=n:=⟨_,rfl⟩
 have EN:=Lh en
 have hn:n≤16777216:=by rw [← en];exact hM.out.inn.wf.ol
 have hfm:=find_mm (o:=bytO) (key:=ObjT.key) hM.out.inn.os hRO.out key
 obtain⟨p,ep⟩:∃p,bsP (fL (cmpO bytO (fun i:OM=>i.x.key) key) m.os) m.os.length=p:=⟨_,rfl⟩
 obtain⟨b,eb⟩:∃b,bsB (fL (cmpO bytO (fun i:OM=>i.x.key) key) m.os) m.os.length=b:=⟨_,rfl⟩
 have HKY:=Lh hM.out.inn.okeys
 have HFW:=Lh (fun W kb h1 h2=>findObj m.OA n m.oc m.os kb key W h1 (Lh (by rw [HLI.out,en])) (by omega) h2 HKY hk)
 rw [show cmpObj key=cmpO bytO (fun i:OM=>i.x.key) key from rfl,show n=m.os.length from by rw [HLI.out,en]] at HFW
 rw [ep,eb] at HFW
 simp only [ep,eb] at hfm
 have HFM:=Lh hfm
 rw [show m.os.length=n from by rw [HLI.out,en]] at HFW
 have HGL:=Lh hM.out.blk.lt
 clear hfm ep eb en
 go_enter Tryz.func58,Tryz.ntmps58
 go_wp2_with fail
 refine wp_region_late (S0:=fun w'=>w'.cell? ⟨g,8,none⟩=some (.slice m.OA n m.oc)) (S:=fun _=>True) 12 13 (by kernel_rfl) rfl ⟨(hM.out.blk.cell 8).trans (by rw [← EN.out];rfl),trivial⟩ (fun wd hwd hH=>?_)
 have DW:=Lh (show Below w.heap.size w wd from by rw [hwd];exact (Below.refl _ _).drew)
 clear hwd
 have HMD:=Lh (hM.out.later DW.out)
 clear hM
 refine tS 0 rfl ?_ hH ?_ ?_
 rotate_left
 · (intro wx hx;go_simp <;> with_reducible rfl)
 try simp only [Act.put,pA9,pZ9,pS9]
 refine tS 1 rfl ?_ hH ?_ ?_
 rotate_left
 · (intro wx hx;go_simp <;> with_reducible rfl)
 try simp only [Act.put,pA9,pZ9,pS9]
 refine tS 2 rfl ?_ hH ?_ ?_
 rotate_left
 · (intro wx hx;go_simp <;> with_reducible rfl)
 try simp only [Act.put,pA9,pZ9,pS9]
 refine tS 3 rfl ?_ hH ?_ ?_
 rotate_left
 · (intro wx hx;go_simp <;> with_reducible rfl)
 try simp only [Act.put,pA9,pZ9,pS9]
 refine tS 4 rfl ?_ hH ?_ ?_
 rotate_left
 · (intro wx hx;go_simp <;> with_reducible rfl)
 try simp only [Act.put,pA9,pZ9,pS9]
 refine tS 5 rfl ?_ hH ?_ ?_
 rotate_left
 · (intro wx hx;go_simp <;> with_reducible rfl)
 try simp only [Act.put,pA9,pZ9,pS9]
 refine wpAnyT_one 6 rfl (by kernel_rfl) (fun K hQ=>?_)
 go_simp
 (go_at_call 33;refine (mkObj key _).mono ?_;rintro e w8 ⟨rfl,hc8,hb8⟩)
 have HC8:=Lh hc8
 have HB8:=Lh hb8
 have HM8:=Lh (HMD.out.later hb8)
 clear hc8 hb8
 refine hQ.out _ _ ?_ (fun hH6=>?_)
 · exact⟨(HM8.out.blk.cell 8).trans (by rw [← EN.out];rfl),trivial⟩
 clear hQ K
 try simp only [Act.put,pA9,pZ9,pS9]
 refine wpAnyT_one 7 rfl (by kernel_rfl) (fun K hQ=>?_)
 go_simp
 (go_at_call 32;refine (HFW.out _ wd.heap.size (Lh (by have:=HM8.out.inn.rows.objs.rd;unfold MM.objs at this;rw [EN.out] at this;exact this)) HC8).mono ?_;rintro e w9 ⟨rfl,hb9⟩)
 have HB9:=Lh hb9
 have HM9:=Lh (HM8.out.later hb9)
 have HB89:=Lh (HB8.out.trans (hb9.mono HB8.out.size))
 clear hb9
 refine hQ.out _ _ ?_ (fun hH7=>?_)
 · exact⟨(HM9.out.blk.cell 8).trans (by rw [← EN.out];rfl),trivial⟩
 clear hQ K
 try simp only [Act.put,pA9,pZ9,pS9]
 refine tS 8 rfl ?_ hH7 ?_ ?_
 rotate_left
 · (intro wx hx;go_simp <;> with_reducible rfl)
 try simp only [Act.put,pA9,pZ9,pS9]
 refine tS 9 rfl ?_ hH7 ?_ ?_
 rotate_left
 · (intro wx hx;go_simp <;> with_reducible rfl)
 try simp only [Act.put,pA9,pZ9,pS9]
 refine tS 10 rfl ?_ hH7 ?_ ?_
 rotate_left
 · (intro wx hx;go_simp <;> with_reducible rfl)
 try simp only [Act.put,pA9,pZ9,pS9]
 refine tS 11 rfl ?_ hH7 ?_ ?_
 rotate_left
 · (intro wx hx;go_simp <;> with_reducible rfl)
 try simp only [Act.put,pA9,pZ9,pS9]
 refine wpAnyT_last 12 rfl (by kernel_rfl) (by decide) (fun K hQ=>?_)
 go_simp
 refine hQ.out _ _ ?_ (fun hH12=>?_)
 · exact hH7.1
 clear hQ K
 try simp only [Act.put,pA9,pZ9,pS9]
 refine wpAnyT_done (by kernel_rfl) ?_ _
 clear hH hH6 hH7 hH12
 have HBF:=Lh (DW.out.trans (HB89.out.mono DW.out.size))
 clear HMD HM8 HC8 DW HB8 HB89 HB9 HFW
 cases b with
 | false =>
   have hf:findR bytO ObjT.key key m.x.objs=none:=by
    rcases HFM.out with ⟨h1,_⟩ | ⟨_,h1⟩
    · cases h1
    · exact h1
   have HF:=Lh hf
   clear hf HFM
   go_wp2_with fail
   go_ret
   have e1:awayM m.x key=(m.x,false):=by unfold awayM;rw [HF.out]
   rw [e1]
   exact⟨rfl,gb_below HBF.out _,m,HM9.out,rfl⟩
 | true =>
   obtain⟨o,hpi,hf⟩:∃o,m.os[p]?=some o∧findR bytO ObjT.key key m.x.objs=some o.x:=by
    rcases HFM.out with ⟨_,h1⟩ | ⟨h1,_⟩
    · exact h1
    · cases h1
   obtain⟨hp,ei⟩:=List.getElem?_eq_some_iff.1 hpi
   have hpn:p<n:=by rw [← EN.out,← HLI.out];exact hp
   obtain⟨ia,eia,iab,icc⟩:=elem_cells (cells:=omCs) (K:=7) (fun _=>rfl) HM9.out.inn.rows.objs.rd hp (by show 0<m.x.objs.length;rw [EN.out];omega)
   have hmem:m.os[p] ∈ m.os:=List.getElem_mem hp
   rw [ei] at icc hmem
   have c9:w9.cell? ⟨g,8,none⟩=some (.slice (some ia) n m.oc):=(HM9.out.blk.cell 8).trans (by rw [← EN.out,← show m.OA=some ia from eia];rfl)
   have ICC:=Lh icc
   have HF:=Lh (And.intro hmem hf)
   have hob:o.x.nodes.length≤255:=hnd.out o.x (by rw [← HM9.out.inn.os];exact List.mem_map.2 ⟨o,hmem,rfl⟩)
   have HW:=Lh (fun W (h:Hid (MS G g m W))=>waste_any G g m o W h (Lh (h.out.inn.rows.os o hmem)) (Lh ((h.out.off g h.out.mem).os o hmem)) hob hR (by omega))
   have HOCS:=Lh (show (omCs o).toArray=oA o from rfl)
   clear icc hf hmem ei eia iab hp hpi HFM hob
   go_wp2_with (first
    | (refine wpl_load_at rfl 58 (.tmp 26) rfl (ia.add (p*7)) (omCs o) _ rfl ICC.out Tryz.underlying58 rfl rfl ?_;rw [HOCS.out])
    | (go_at_call 65;refine (HW.out _ HM9).mono ?_;rintro e w2 ⟨rfl,hgb,A2,c2,hm2⟩;have HGB:=Lh hgb;have HM2:=Lh hm2;clear hgb hm2))
   obtain⟨m2,em2⟩:∃m2,m.setW (wasteF m.x.wass o.x) A2 c2=m2:=⟨_,rfl⟩
   have HX2:=Lh (show m2.x={ m.x with wass:=wasteF m.x.wass o.x } from by rw [← em2];rfl)
   rw [em2] at HM2
   have HRI2:=Lh (show Ris bytO ObjT.key m2.x.objs from by rw [HX2.out];exact hRO.out)
   have HL2:=Lh HM2.out.inn.olen
   have HK2:=Lh HM2.out.inn.okeys
   have EN2:=Lh (show m2.x.objs.length=n from by rw [HX2.out];exact EN.out)
   have HGB0:=Lh (gb_trans (gb_below HBF.out _) HGB.out)
   clear em2 HW HGB HM9 c9 HBF
   refine wp_region_late (S0:=fun _=>True) (S:=fun w'=>w'.cell? ⟨g,8,none⟩=some (.slice m2.OA n m2.oc)) 12 13 (by kernel_rfl) rfl ⟨trivial,(HM2.out.blk.cell 8).trans (by rw [← EN2.out];rfl)⟩ (fun wz hwz hZ=>?_)
   have DW:=Lh (show Below w2.heap.size w2 wz from by rw [hwz];exact (Below.refl _ _).drew)
   clear hwz
   have HMD:=Lh (HM2.out.later DW.out)
   clear HM2
   refine tS 0 rfl ?_ hZ ?_ ?_
   rotate_left
   · (intro wx hx;go_simp <;> with_reducible rfl)
   try simp only [Act.put,pA9,pZ9,pS9]
   refine tS 1 rfl ?_ hZ ?_ ?_
   rotate_left
   · (intro wx hx;go_simp <;> with_reducible rfl)
   try simp only [Act.put,pA9,pZ9,pS9]
   refine tS 2 rfl ?_ hZ ?_ ?_
   rotate_left
   · (intro wx hx;go_simp <;> with_reducible rfl)
   try simp only [Act.put,pA9,pZ9,pS9]
   refine tS 3 rfl ?_ hZ ?_ ?_
   rotate_left
   · (intro wx hx;go_simp <;> with_reducible rfl)
   try simp only [Act.put,pA9,pZ9,pS9]
   refine tS 4 rfl ?_ hZ ?_ ?_
   rotate_left
   · (intro wx hx;go_simp <;> with_reducible rfl)
   try simp only [Act.put,pA9,pZ9,pS9]
   refine wpAnyT_take 5 (v:=?_) rfl (by kernel_rfl) (fun _ _ _ h=>h) (Or.inl ⟨by rfl,?_⟩) hZ ?_
   rotate_left
   · (intro wx hx;go_simp <;> with_reducible rfl)
   try simp only [Act.put,pA9,pZ9,pS9]
   refine tS 6 rfl ?_ hZ ?_ ?_
   rotate_left
   · (intro wx hx;go_simp <;> with_reducible rfl)
   try simp only [Act.put,pA9,pZ9,pS9]
   refine wpAnyT_one 7 rfl (by kernel_rfl) (fun K hQ=>?_)
   go_simp
   (go_at_call 33;refine (mkObj key _).mono ?_;rintro e w8 ⟨rfl,hc8,hb8⟩)
   have HC8:=Lh hc8
   have HB8:=Lh hb8
   have HM8:=Lh (HMD.out.later hb8)
   clear hc8 hb8
   refine hQ.out _ _ ?_ (fun hZ7=>?_)
   · exact⟨trivial,(HM8.out.blk.cell 8).trans (by rw [← EN2.out];rfl)⟩
   clear hQ K
   try simp only [Act.put,pA9,pZ9,pS9]
   refine wpAnyT_one 8 rfl (by kernel_rfl) (fun K hQ=>?_)
   go_simp
   (go_at_call 92;refine (dropObj m2.OA n m2.oc m2.os wz.heap.size key _ (Lh (by have:=HM8.out.inn.rows.objs.rd;unfold MM.objs at this;rw [EN2.out] at this;exact this)) (Lh (by rw [HL2.out,EN2.out])) (by omega) HC8 HK2 hk (by have:=HM8.out.inn.rows.objs.nc;unfold MM.objs at this;rw [EN2.out] at this;exact this) HM8.out.inn.rows.objs.cm).mono ?_;rintro e w9b ⟨A9,c9,rfl,hr9,hn9,hm9,hb9,ho9⟩)
   have HR9:=Lh hr9
   have HO9:=Lh ho9
   have HN9:=Lh (And.intro hn9 hm9)
   have HM9:=Lh (HM8.out.later hb9)
   have HB89:=Lh (HB8.out.trans (hb9.mono HB8.out.size))
   have z0:w9b.cell? ⟨g,8,none⟩=some (.slice m2.OA n m2.oc):=(HM9.out.blk.cell 8).trans (by rw [← EN2.out];rfl)
   have z1:w9b.frozen? ⟨g,8,none⟩=false:=HM9.out.blk.frozen 8
   clear hr9 ho9 hn9 hm9 hb9
   refine hQ.out _ _ ?_ (fun hZ8=>?_)
   · exact⟨trivial,z0⟩
   clear hQ K
   try simp only [Act.put,pA9,pZ9,pS9]
   refine tS 9 rfl ?_ hZ8 ?_ ?_
   rotate_left
   · (intro wx hx;go_simp <;> with_reducible rfl)
   try simp only [Act.put,pA9,pZ9,pS9]
   refine tS 10 rfl ?_ hZ8 ?_ ?_
   rotate_left
   · (intro wx hx;go_simp <;> with_reducible rfl)
   try simp only [Act.put,pA9,pZ9,pS9]
   refine tS 11 rfl ?_ hZ8 ?_ ?_
   rotate_left
   · (intro wx hx;go_simp <;> with_reducible rfl)
   try simp only [Act.put,pA9,pZ9,pS9]
   refine wpAnyT_last 12 rfl (by kernel_rfl) (by decide) (fun K hQ=>?_)
   go_simp
   refine hQ.out _ _ ?_ (fun hZ12=>?_)
   · trivial
   clear hQ K
   try simp only [Act.put,pA9,pZ9,pS9]
   refine wpAnyT_done (by kernel_rfl) ?_ _
   obtain⟨L9,eL9⟩:∃L,dropB (fL (cmpObj key) m2.os) m2.os=L:=⟨_,rfl⟩
   have hsub:∀i ∈ L9,i ∈ m2.os:=fun i hi=>by rw [← eL9] at hi;exact mem_dropB hi
   have hpos:0<L9.length→0<n:=fun h=>by omega
   have hlen:L9.length≤n:=by rw [← EN2.out,← HL2.out,← eL9,dropB_len];split <;> omega
   have hmx:L9.map (·.x)=dropR bytO ObjT.key key m2.x.objs:=by
    rw [← eL9];exact drop_obj HMD.out.inn.os HRI2.out key
   rw [eL9] at HR9 HO9 HN9 ⊢
   have SUB:=Lh hsub
   have POS:=Lh hpos
   have LEN:=Lh hlen
   have HMX:=Lh hmx
   clear eL9 hsub hpos hlen hmx
   have GS:=Lh (HM9.out.blk.set_ 8 (.slice A9 L9.length c9))
   have OS:=Lh (Only.set_ w9b g 8 (.slice A9 L9.length c9))
   obtain⟨wx,hwx⟩:∃wx,w9b.setCell ⟨g,8,none⟩ (.slice A9 L9.length c9)=wx:=⟨_,rfl⟩
   rw [hwx] at GS OS ⊢
   clear hwx z0 z1 hZ hZ7 hZ8 hZ12
   have hO9:∀q ∈ G,(⟨7,A9,c9,L9.length,L9.flatMap omCs⟩:RowT).Off q:=fun q hq=>off_drop (n:=n) (by have:=(HMD.out.off q hq).objs;unfold MM.objs at this;rw [EN2.out] at this;exact this) POS.out (HM8.out.lt q hq) HO9.out
   have HX:=Lh (HM9.out.setO (gb_only OS.out) GS.out ((⟨HR9.out,HN9.out.1,HN9.out.2⟩:(⟨7,A9,c9,L9.length,L9.flatMap omCs⟩:RowT).In w9b).grown (hO9 g HM9.out.mem) (gb_only OS.out)) hO9 (by have:=LEN.out;omega) (fun i hi => .inl (SUB.out i hi)))
   have HGX:=Lh (gb_trans (gb_trans (gb_trans HGB0.out (gb_below DW.out _)) (gb_below HB89.out _)) (gb_only OS.out))
   go_wp2_with fail
   go_ret
   have e1:awayM m.x key=({ m.x with wass:=wasteF m.x.wass o.x,objs:=dropR bytO ObjT.key key m.x.objs },true):=by unfold awayM;rw [HF.out.2]
   rw [e1]
   refine⟨rfl,TurnM.mk HGX.out HX.out ?_⟩
   show ({ m2.x with objs:=L9.map (·.x) }:MetT)=_
   rw [HMX.out,HX2.out]
end
end Go.Proofs.YtdoneomahlfkbaaGreat
