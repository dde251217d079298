/- put, drop (buttress/api.Waste). (printed by gen_meg.py); THE METADATA AS A MACHINE: what commands make of a state that may be may be, too. Plain; THE -/
import Derived.Test.YtdoneomahlfkbaaGreatOnc02
import Derived.Test.YtdoneomahlfkbaaGreatOnc04
import Derived.Test.YtdoneomahlfkbaaGreatOnc03
import Derived.Test.YtdoneomahlfkbaaGreatOnc01
set_option linter.unusedVariables false
set_option linter.unusedSimpArgs false
set_option maxRecDepth 100000
set_option maxHeartbeats 4000000
namespace Go.Proofs.YtdoneomahlfkbaaGreat
section
open Go.RowKit OctMath
theorem llWas:∀m:WasT,(wasL m).length=4:=fun _=>rfl
theorem oneWas (ms:List WasT):OneC (ms.flatMap wasL):=fun u hu=>by
 obtain⟨m,_,hm⟩:=List.mem_flatMap.1 hu
 have h:(wasL m).all (·.oneCell')=true:=rfl
 exact List.all_eq_true.1 h u hm
theorem Tryz.szWas:(Tryz.prog.info? 52).map (·.size)=some 4:=by kernel_rfl
theorem Tryz.sbWas:(Tryz.prog.info? 52).map (fun i=>(i.zero.map (·.cells.size),i.size))=some (some 4,4):=by kernel_rfl
theorem putWas (A:Option Addr) (n cap:Nat) (ms:List WasT) (m:WasT) (kb:Nat) (k:WasT) (w:World) (hr:Hid (Reads w w.heap.size 4 A n (ms.flatMap wasL))) (hl:Hid (ms.length=n)) (hn:n≤33554432) (hc:Hid (CapWas w kb k)) (hm:Hid (∀m ∈ ms,True)) (hk1:True) :
 Calls Tryz.prog 97 #[.slice A n cap,.agg (wasCs m),.func (.func 105) #[] #[.pointer (some ⟨kb,0,none⟩)]] w (RetRow 52 4 (putB (fL (cmpWas k) ms) m ms).length ((putB (fL (cmpWas k) ms) m ms).flatMap wasL) w):=by
 obtain⟨p,ep⟩:∃p,bsP (fL (cmpWas k) ms) n=p:=⟨_,rfl⟩
 have hpn:p≤n:=by rw [← ep];exact bsP_le _ _
 have HFW:=Lh (fun W h1 h2=>findWas A n cap ms kb k W h1 hl (by omega) h2 hm hk1)
 have HKL:=Lh hc.out.lt
 have HW:=Lh (show (wasCs m).size=4 from rfl)
 have HY1:=Lh (show (wasCs m).toList.all (·.oneCell')=true from rfl)
 have HLS:=Lh (show wasL m=(wasCs m).toList from rfl)
 obtain⟨cs,ecs⟩:∃cs,wasCs m=cs:=⟨_,rfl⟩
 have HBX:=Lh (Blk.new w 52 cs)
 have hb0:Below w.heap.size w (w.alloc (.cells cs 52)):=(Below.refl _ _).alloc (Nat.le_refl _) _
 have HR0:=Lh (hr.out.later hb0)
 have HC0:Hid (CapWas (w.alloc (.cells cs 52)) kb k):=Lh (Blk.below hc.out hb0 HKL.out)
 rw [ecs] at HW HY1 HLS ⊢
 clear ecs hb0
 cases eb:bsB (fL (cmpWas k) ms) n with
 | true =>
   have hp:p<n:=by rw [← ep];exact bsB_lt eb
   have HCELLS:=Lh (put_cells_old llWas (x:=m) (f:=(fL (cmpWas k) ms)) (ms:=ms) (by rw [hl.out];exact eb))
   have HLEN:=Lh (show (putB (fL (cmpWas k) ms) m ms).length=n from by rw [putB_len,hl.out,eb,if_pos rfl])
   rw [ep,eb] at HFW
   have EP:=Lh ep
   clear ep eb
   go_enter Tryz.func97,Tryz.ntmps97
   go_wp2_with (refine (HFW.out _ HR0 HC0).mono ?_;rintro e w1 ⟨rfl,hb⟩)
   have HBY:=Lh (HBX.out.below hb HBX.out.lt)
   have HR1:=Lh (HR0.out.later hb)
   have HB1:=Lh (show Below w.heap.size w w1 from ((Below.refl _ _).alloc (Nat.le_refl _) _).trans (hb.mono (by simp)))
   have HSZ:=Lh (show w.heap.size<w1.heap.size from by have:=hb.size;simp at this;omega)
   clear hb HBX HR0 HC0
   go_wp2_with (first
    | (go_at_call 104;refine (cloneWas A n cap _ _ HR1 (Lh (oneWas ms)) (by omega)).mono ?_;rintro e w2 ⟨v,rfl,ho,hb⟩;obtain⟨g,c,rfl⟩:=own_form ho (by omega);have HO:=Lh ho;have HBZ:=Lh (HBY.out.below hb HBY.out.lt);have HB2:=Lh hb;clear ho hb HBY)
    | (refine wpl_load_blk rfl 52 (.tmp 4) rfl w.heap.size 52 cs _ rfl HBZ.out Tryz.underlying52 rfl (Tryz.szWas.trans (congrArg some HW.out.symm)) ?_)
    | (refine wpl_store_own rfl 52 (.tmp 21) (.tmp 20) rfl w1.heap.size w1 4 n g c p _ cs rfl rfl HO.out HB2.out hp HW.out Tryz.szWas HY1.out ?_;intro w3 hh))
   go_ret
   refine⟨_,rfl,?_,HB1.out.trans (hh.out.2.1.mono HB1.out.size)⟩
   have h:=HCELLS.out
   rw [hl.out,EP.out,HLS.out] at h
   rw [HLEN.out,← h]
   exact ownBas hh.out.1 HB1.out.size
 | false =>
   have HCELLS:=Lh (put_cells_new llWas (x:=m) (f:=(fL (cmpWas k) ms)) (ms:=ms) (by rw [hl.out];exact eb))
   have HLEN:=Lh (show (putB (fL (cmpWas k) ms) m ms).length=n+1 from by rw [putB_len,hl.out,eb];rfl)
   rw [ep,eb] at HFW
   have EP:=Lh ep
   clear ep eb
   go_enter Tryz.func97,Tryz.ntmps97
   go_wp2_with (refine (HFW.out _ HR0 HC0).mono ?_;rintro e w1 ⟨rfl,hb⟩)
   have HBY:=Lh (HBX.out.below hb HBX.out.lt)
   have HR1:=Lh (HR0.out.later hb)
   have HB1:=Lh (show Below w.heap.size w w1 from ((Below.refl _ _).alloc (Nat.le_refl _) _).trans (hb.mono (by simp)))
   have HSZ:=Lh (show w.heap.size<w1.heap.size from by have:=hb.size;simp at this;omega)
   clear hb HBX HR0 HC0
   go_wp2_with fail
   refine wp_region_late (S0:=fun w'=>Blk w' w.heap.size 52 cs) (S:=fun _=>True) 6 7 (by kernel_rfl) rfl ⟨HBY.out.drew,trivial⟩ (fun wd hwd hH=>?_)
   have DW:=Lh (show Below w1.heap.size w1 wd from by rw [hwd];exact (Below.refl _ _).drew)
   clear hwd
   refine tS 0 rfl ?_ hH ?_ ?_
   rotate_left
   · (intro wy hx;go_simp <;> with_reducible rfl)
   try simp only [Act.put,pA9,pZ9,pS9]
   refine tS 2 rfl ?_ hH ?_ ?_
   rotate_left
   · (intro wy hx;go_simp <;> with_reducible rfl)
   try simp only [Act.put,pA9,pZ9,pS9]
   refine wpAnyT_stay 3 rfl (by kernel_rfl) (fun _ _ _ h=>h) (yields_load_blk rfl 52 (.tmp 4) rfl w.heap.size 52 cs _ rfl (fun w' hw'=>hw') Tryz.underlying52 rfl (Tryz.szWas.trans (congrArg some HW.out.symm))) ⟨hH.1,fun _=>hH.2⟩ ?_
   try simp only [Act.put,pA9,pZ9,pS9]
   refine wpAnyT_two 1 4 rfl rfl (by kernel_rfl) (fun K hQ=>?_) (fun K hQ=>?_)
   · go_simp
     (go_at_call 104;refine (cloneWas A n cap _ _ (Lh (HR1.out.later DW.out)) (Lh (oneWas ms)) (by omega)).mono ?_;rintro e w5 ⟨v,rfl,ho,hb⟩)
     have HO:=Lh ho
     have HB5:=Lh hb
     clear ho hb
     refine hQ.out _ _ ⟨hH.1.below HB5.out hH.1.lt,trivial⟩ (fun hH1=>?_)
     clear hQ K
     try simp only [Act.put,pA9,pZ9,pS9]
     refine wpAnyT_one 4 rfl (by kernel_rfl) (fun K hQ=>?_)
     rw [if_pos (by rfl)]
     refine wp_build1g 32 52 (.tmp 26) rfl 4 (by decide) (by decide) cs HW.out rfl Tryz.underlying32 Tryz.sbWas ?_
     try simp only [Act.put,pA9,pZ9,pS9]
     refine hQ.out _ _ ⟨hH1.1.alloc _,trivial⟩ (fun hH2=>?_)
     clear hQ K
     try simp only [Act.put,pA9,pZ9,pS9]
     have NB:=Lh (Blk.new w5 52 cs)
     have HO2:=Lh (HO.out.alloc (.cells cs 52))
     have HB6:=Lh (show Below wd.heap.size wd (w5.alloc (.cells cs 52)) from HB5.out.alloc HB5.out.size _)
     have HNE:=Lh (show v.ownBlock≠some w5.heap.size from fun e=>by have:=(HO.out.lt _ e).2;omega)
     obtain⟨w6,ew6⟩:∃w6,w5.alloc (.cells cs 52)=w6:=⟨_,rfl⟩
     have HS6:=Lh (show wd.heap.size≤w6.heap.size from by rw [← ew6];exact HB6.out.size)
     rw [ew6] at NB HO2 HB6 hH2 ⊢
     clear ew6
     obtain⟨vb,evb⟩:∃vb,w5.heap.size=vb:=⟨_,rfl⟩
     rw [evb] at NB HNE ⊢
     clear evb
     refine wpAnyT_one 5 rfl (by kernel_rfl) (fun K hQ=>?_)
     rw [if_pos (by rfl)]
     go_simp
     (go_at_call 130;refine (insWas wd.heap.size v n (ms.flatMap wasL) p vb cs wd _ (Lh HO2.out) (Lh (oneWas ms)) (Lh HB6.out) HS6.out (Lh NB.out) HW (Lh (List.all_eq_true.1 HY1.out)) HNE.out hpn (by omega)).mono ?_;rintro e w7 ⟨v',rfl,ho',hb'⟩)
     have HO7:=Lh ho'.out
     have HB7:=Lh hb'
     clear ho' hb'
     refine hQ.out _ _ ⟨hH.1.below HB7.out hH.1.lt,trivial⟩ (fun hH3=>?_)
     clear hQ K
     try simp only [Act.put,pA9,pZ9,pS9]
     refine wpAnyT_last 6 rfl (by kernel_rfl) (by decide) (fun K hQ=>?_)
     go_simp
     refine hQ.out _ _ hH3.1 (fun hH4=>?_)
     clear hQ K
     try simp only [Act.put,pA9,pZ9,pS9]
     refine wpAnyT_done (by kernel_rfl) ?_ _
     clear hH hH1 hH2 hH3 hH4
     go_wp2
     go_ret
     refine⟨_,rfl,?_,?_⟩
     · have h:=HCELLS.out
       rw [hl.out,EP.out,HLS.out] at h
       rw [HLEN.out,← h]
       exact ownBas HO7.out (Nat.le_trans HB1.out.size DW.out.size)
     · exact (HB1.out.trans (DW.out.mono HB1.out.size)).trans (HB7.out.mono (Nat.le_trans HB1.out.size DW.out.size))
   · rw [if_pos (by rfl)]
     refine wp_build1g 32 52 (.tmp 26) rfl 4 (by decide) (by decide) cs HW.out rfl Tryz.underlying32 Tryz.sbWas ?_
     try simp only [Act.put,pA9,pZ9,pS9]
     refine hQ.out _ _ ⟨hH.1.alloc _,trivial⟩ (fun hH1=>?_)
     clear hQ K
     try simp only [Act.put,pA9,pZ9,pS9]
     have NB:=Lh (Blk.new wd 52 cs)
     have HBA:=Lh (show Below wd.heap.size wd (wd.alloc (.cells cs 52)) from (Below.refl _ _).alloc (Nat.le_refl _) _)
     have HS6:=Lh (show wd.heap.size<(wd.alloc (.cells cs 52)).heap.size from by simp)
     obtain⟨w4,ew4⟩:∃w4,wd.alloc (.cells cs 52)=w4:=⟨_,rfl⟩
     rw [ew4] at NB HBA HS6 hH1 ⊢
     clear ew4
     obtain⟨vb,evb⟩:∃vb,wd.heap.size=vb:=⟨_,rfl⟩
     have EVB:=Lh evb
     rw [evb] at NB HS6 ⊢
     clear evb
     refine wpAnyT_one 1 rfl (by kernel_rfl) (fun K hQ=>?_)
     rw [if_pos (by rfl)]
     go_simp
     (go_at_call 104;refine (cloneWas A n cap _ _ (Lh (HR1.out.later (DW.out.trans (HBA.out.mono DW.out.size)))) (Lh (oneWas ms)) (by omega)).mono ?_;rintro e w5 ⟨v,rfl,ho,hb⟩)
     have HO:=Lh ho
     have HB5:=Lh hb
     clear ho hb
     have NB5:=Lh (NB.out.below HB5.out HS6.out)
     have HB6:=Lh (show Below wd.heap.size wd w5 from HBA.out.trans (HB5.out.mono HBA.out.size))
     have HNE:=Lh (show v.ownBlock≠some vb from fun e=>by have:=(HO.out.lt _ e).1;have:=HS6.out;omega)
     refine hQ.out _ _ ⟨hH1.1.below HB5.out hH1.1.lt,trivial⟩ (fun hH2=>?_)
     clear hQ K
     try simp only [Act.put,pA9,pZ9,pS9]
     refine wpAnyT_one 5 rfl (by kernel_rfl) (fun K hQ=>?_)
     rw [if_pos (by rfl)]
     go_simp
     (go_at_call 130;refine (insWas w4.heap.size v n (ms.flatMap wasL) p vb cs w4 _ (Lh HO.out) (Lh (oneWas ms)) (Lh HB5.out) HB5.out.size (Lh NB5.out) HW (Lh (List.all_eq_true.1 HY1.out)) HNE.out hpn (by omega)).mono ?_;rintro e w7 ⟨v',rfl,ho',hb'⟩)
     have HO7:=Lh ho'.out
     have HB7:=Lh (HBA.out.trans (hb'.mono HBA.out.size))
     clear ho' hb'
     refine hQ.out _ _ ⟨hH.1.below HB7.out hH.1.lt,trivial⟩ (fun hH3=>?_)
     clear hQ K
     try simp only [Act.put,pA9,pZ9,pS9]
     refine wpAnyT_last 6 rfl (by kernel_rfl) (by decide) (fun K hQ=>?_)
     go_simp
     refine hQ.out _ _ hH3.1 (fun hH4=>?_)
     clear hQ K
     try simp only [Act.put,pA9,pZ9,pS9]
     refine wpAnyT_done (by kernel_rfl) ?_ _
     clear hH hH1 hH2 hH3 hH4
     go_wp2
     go_ret
     refine⟨_,rfl,?_,?_⟩
     · have h:=HCELLS.out
       rw [hl.out,EP.out,HLS.out] at h
       rw [HLEN.out,← h]
       exact ownBas HO7.out (Nat.le_trans (Nat.le_trans HB1.out.size DW.out.size) HBA.out.size)
     · exact (HB1.out.trans (DW.out.mono HB1.out.size)).trans (HB7.out.mono (Nat.le_trans HB1.out.size DW.out.size))
theorem dropWas (A:Option Addr) (n cap:Nat) (ms:List WasT) (kb:Nat) (k:WasT) (w:World) (hr:Hid (Reads w w.heap.size 4 A n (ms.flatMap wasL))) (hl:Hid (ms.length=n)) (hn:n≤33554432) (hc:Hid (CapWas w kb k)) (hm:Hid (∀m ∈ ms,True)) (hk1:True) (hcn:n≤cap) (hcm:cap≤maxLen) :
 Calls Tryz.prog 70 #[.slice A n cap,.func (.func 105) #[] #[.pointer (some ⟨kb,0,none⟩)]] w fun e w'=>∃A' c',e = .returned (.slice A' (dropB (fL (cmpWas k) ms) ms).length c')∧Reads w' w'.heap.size 4 A' (dropB (fL (cmpWas k) ms) ms).length ((dropB (fL (cmpWas k) ms) ms).flatMap wasL)∧(dropB (fL (cmpWas k) ms) ms).length≤c'∧c'≤maxLen∧Below w.heap.size w w'∧(0<(dropB (fL (cmpWas k) ms) ms).length→∀ad,A'=some ad→A'=A∨w.heap.size≤ad.block):=by
 obtain⟨p,ep⟩:∃p,bsP (fL (cmpWas k) ms) n=p:=⟨_,rfl⟩
 have hpn:p≤n:=by rw [← ep];exact bsP_le _ _
 have HFW:=Lh (fun W h1 h2=>findWas A n cap ms kb k W h1 hl (by omega) h2 hm hk1)
 cases eb:bsB (fL (cmpWas k) ms) n with
 | true =>
   have hp:p<n:=by rw [← ep];exact bsB_lt eb
   have HCELLS:=Lh (drop_cells llWas (f:=(fL (cmpWas k) ms)) (ms:=ms) (by rw [hl.out];exact eb))
   have HLEN:=Lh (show (dropB (fL (cmpWas k) ms) ms).length=n - 1 from by rw [dropB_len,hl.out,eb,if_pos rfl])
   rw [ep,eb] at HFW
   have EP:=Lh ep
   clear ep eb
   go_enter Tryz.func70,Tryz.ntmps70
   go_wp2_with (refine (HFW.out _ hr hc).mono ?_;rintro e w1 ⟨rfl,hb⟩)
   have HB1:=Lh hb
   have HR1:=Lh (hr.out.later hb)
   clear hb
   go_wp2_with (first
    | (go_at_call 104;refine (cloneWas A n cap _ _ HR1 (Lh (oneWas ms)) (by omega)).mono ?_;rintro e w2 ⟨v,rfl,ho,hb⟩;have HO:=Lh ho;have HB2:=Lh hb;clear ho hb)
    | (go_at_call 103;refine (delWas w1.heap.size v n (ms.flatMap wasL) p w1 _ HO (Lh (oneWas ms)) HB2 hp (by omega)).mono ?_;rintro e w3 ⟨v',rfl,ho,hb⟩;have HO3:=Lh ho.out;have HB3:=Lh hb;clear ho hb))
   obtain⟨A',c',rfl,h1,h2⟩:=own_slice HO3.out
   go_ret
   refine⟨A',c',by rw [HLEN.out];rfl,?_,by rw [HLEN.out];exact h1,h2,HB1.out.trans (HB3.out.mono HB1.out.size),fun hp0 ad ead => .inr (by
    rw [HLEN.out] at hp0
    have:=(rowIn_own' HO3.out) hp0 ad ead
    have:=HB1.out.size
    omega)⟩
   have h:=HCELLS.out
   rw [hl.out,EP.out] at h
   rw [HLEN.out,← h]
   exact Reads.of_own HO3.out
 | false =>
   have HD:=Lh (show dropB (fL (cmpWas k) ms) ms=ms from by unfold dropB;rw [hl.out,eb];rfl)
   rw [ep,eb] at HFW
   clear ep eb
   go_enter Tryz.func70,Tryz.ntmps70
   go_wp2_with (refine (HFW.out _ hr hc).mono ?_;rintro e w1 ⟨rfl,hb⟩)
   have HB1:=Lh hb
   have HR1:=Lh (hr.out.later hb)
   clear hb
   go_wp2_with fail
   go_ret
   exact⟨A,cap,by rw [HD.out,hl.out];rfl,by rw [HD.out,hl.out];exact HR1.out,by rw [HD.out,hl.out];exact hcn,hcm,HB1.out,fun _ _ _ => .inl rfl⟩
end
section
open OctMath
theorem nodup_le {α:Type} [DecidableEq α]:∀ {l k:List α},l.Nodup→(∀x ∈ l,x ∈ k)→l.length≤k.length
 | [],_,_,_=>Nat.zero_le _
 | x :: l,k,h,hs=>by
   have h1:=List.nodup_cons.1 h
   have hx:=hs x List.mem_cons_self
   have h2:=nodup_le (l:=l) (k:=k.erase x) h1.2 (fun y hy=>(List.mem_erase_of_ne (fun e=>h1.1 (by rw [← e];exact hy))).2 (hs y (List.mem_cons_of_mem _ hy)))
   rw [List.length_erase_of_mem hx] at h2
   have h3:0<k.length:=List.length_pos_of_mem hx
   simp only [List.length_cons]
   omega
theorem nodup_eq {α:Type} [DecidableEq α] {l k:List α} (h:l.Nodup) (h':k.Nodup) (hs:∀x,x ∈ l↔x ∈ k):l.length=k.length :=
 Nat.le_antisymm (nodup_le h fun x hx=>(hs x).1 hx) (nodup_le h' fun x hx=>(hs x).2 hx)
theorem nodup_map {α β:Type} {f:α→β}:∀ {l:List α},l.Nodup→(∀x ∈ l,∀y ∈ l,f x=f y→x=y)→(l.map f).Nodup
 | [],_,_=>List.nodup_nil
 | x :: l,h,hf=>by
   have h1:=List.nodup_cons.1 h
   rw [List.map_cons,List.nodup_cons]
   refine⟨fun hm=>?_,nodup_map h1.2 fun a ha b hb=>hf a (List.mem_cons_of_mem _ ha) b (List.mem_cons_of_mem _ hb)⟩
   obtain⟨y,hy,e⟩:=List.mem_map.1 hm
   have:=hf y (List.mem_cons_of_mem _ hy) x List.mem_cons_self e
   exact h1.1 (by rw [← this];exact hy)
theorem nodup_inj {α β:Type} {f:α→β}:∀ {l:List α},(l.map f).Nodup→∀x ∈ l,∀y ∈ l,f x=f y→x=y
 | [],_,x,hx,_,_,_=>by cases hx
 | z :: l,h,x,hx,y,hy,e=>by
   rw [List.map_cons,List.nodup_cons] at h
   rcases List.mem_cons.1 hx with rfl | hx'
   · rcases List.mem_cons.1 hy with rfl | hy'
     · rfl
     · exact absurd (List.mem_map.2 ⟨y,hy',e.symm⟩) h.1
   · rcases List.mem_cons.1 hy with rfl | hy'
     · exact absurd (List.mem_map.2 ⟨x,hx',e⟩) h.1
     · exact nodup_inj h.2 x hx' y hy' e
section
variable {K α:Type} {o:SOrd K} {key:α→K}
theorem Ris.nodup {l:List α} (h:Ris o key l):l.Nodup:=List.Pairwise.imp (fun {a b} h1 e=>by rw [e,o.irr] at h1;cases h1) h
theorem Ris.nodupK {l:List α} (h:Ris o key l):(l.map key).Nodup:=nodup_map h.nodup fun x hx y hy e=>h.uniq hx hy e
theorem Ris.snoc {l:List α} {x:α} (h:Ris o key l) (hx:∀y ∈ l,o.lt (key y) (key x)=true):Ris o key (l ++ [x]) :=
 List.pairwise_append.2 ⟨h,List.pairwise_singleton _ _,fun a ha b hb=>by rw [List.mem_singleton.1 hb];exact hx a ha⟩
end
structure Mat (s:SesT) (x:IntT):Prop where
 ver:x.obj.version=s.version
 cl:x.client=s.client
 seq:x.seq=s.seq
structure Rel (cl:Nat) (ss:List SesT) (is:List IntT):Prop where
 fw:∀s ∈ ss,s.client≠cl→s.opn=true→∃x ∈ is,Mat s x
 no:∀x ∈ is,x.client≠cl
 bw:∀x ∈ is,∃s ∈ ss,s.opn=true∧Mat s x
structure RelA (ss:List SesT) (is:List IntT):Prop where
 fw:∀s ∈ ss,s.opn=true→∃x ∈ is,Mat s x
 bw:∀x ∈ is,∃s ∈ ss,s.opn=true∧Mat s x
theorem open_nodup {ss:List SesT} {is:List IntT} (hs:Ris natO SesT.client ss) (hi:Ris natO verI is) (fw:∀s ∈ ss,s.opn=true→∃x ∈ is,Mat s x):((ss.filter (·.opn)).map (·.version)).Nodup:=by
 refine nodup_map (hs.nodup.sublist List.filter_sublist) fun a ha b hb e=>?_
 obtain⟨a1,a2⟩:=List.mem_filter.1 ha
 obtain⟨b1,b2⟩:=List.mem_filter.1 hb
 obtain⟨x,hx,mx⟩:=fw a a1 a2
 obtain⟨y,hy,my⟩:=fw b b1 b2
 have:x=y:=hi.uniq hx hy (by show x.obj.version=y.obj.version;rw [mx.ver,my.ver];exact e)
 subst this
 exact hs.uniq a1 b1 (by rw [← mx.cl,← my.cl])
theorem RelA.of {ss:List SesT} {is:List IntT} (hs:Ris natO SesT.client ss) (hi:Ris natO verI is) (fw:∀s ∈ ss,s.opn=true→∃x ∈ is,x.obj.version=s.version∧x.client=s.client∧x.seq=s.seq) (hn:(ss.filter (·.opn)).length=is.length):RelA ss is:=by
 have fw':∀s ∈ ss,s.opn=true→∃x ∈ is,Mat s x:=fun s h1 h2=>by obtain⟨x,hx,a,b,c⟩:=fw s h1 h2;exact⟨x,hx,a,b,c⟩
 refine⟨fw',fun x hx=>?_⟩
 have nd:=open_nodup hs hi fw'
 by_cases h:verI x ∈ (ss.filter (·.opn)).map (·.version)
 · obtain⟨s,h1,e⟩:=List.mem_map.1 h
   obtain⟨h2,h3⟩:=List.mem_filter.1 h1
   obtain⟨y,hy,my⟩:=fw' s h2 h3
   have:y=x:=hi.uniq hy hx (by show y.obj.version=x.obj.version;rw [my.ver];exact e)
   subst this
   exact⟨s,h2,h3,my⟩
 · exfalso
   have nd2:(verI x :: (ss.filter (·.opn)).map (·.version)).Nodup:=List.nodup_cons.2 ⟨h,nd⟩
   have:=nodup_le nd2 (k:=is.map verI) fun v hv=>by
    rcases List.mem_cons.1 hv with rfl | hv
    · exact List.mem_map.2 ⟨x,hx,rfl⟩
    · obtain⟨s,h1,rfl⟩:=List.mem_map.1 hv
      obtain⟨h2,h3⟩:=List.mem_filter.1 h1
      obtain⟨y,hy,my⟩:=fw' s h2 h3
      exact List.mem_map.2 ⟨y,hy,my.ver⟩
   simp only [List.length_cons,List.length_map] at this
   omega
theorem RelA.count {ss:List SesT} {is:List IntT} (hs:Ris natO SesT.client ss) (hi:Ris natO verI is) (h:RelA ss is):(ss.filter (·.opn)).length=is.length:=by
 have e:=nodup_eq (l:=(ss.filter (·.opn)).map (·.version)) (k:=is.map verI) (open_nodup hs hi h.fw) hi.nodupK fun v=>by
  constructor
  · intro hv
    obtain⟨s,h1,rfl⟩:=List.mem_map.1 hv
    obtain⟨h2,h3⟩:=List.mem_filter.1 h1
    obtain⟨y,hy,my⟩:=h.fw s h2 h3
    exact List.mem_map.2 ⟨y,hy,my.ver⟩
  · intro hv
    obtain⟨x,hx,rfl⟩:=List.mem_map.1 hv
    obtain⟨s,h1,h2,m⟩:=h.bw x hx
    exact List.mem_map.2 ⟨s,List.mem_filter.2 ⟨h1,h2⟩,m.ver.symm⟩
 simpa using e
theorem RelA.some_ {ss:List SesT} {is:List IntT} (hs:Ris natO SesT.client ss) (hi:Ris natO verI is) (h:RelA ss is) {x:IntT} (hx:x ∈ is):Rel x.client ss (dropR natO verI x.obj.version is):=by
 obtain⟨sx,hsx,ox,mx⟩:=h.bw x hx
 refine⟨fun s h1 h2 h3=>?_,fun y hy=>?_,fun y hy=>?_⟩
 · obtain⟨y,hy,my⟩:=h.fw s h1 h3
   refine⟨y,(mem_drop_ hi).2 ⟨hy,fun e=>h2 ?_⟩,my⟩
   have:y=x:=hi.uniq hy hx e
   rw [← my.cl,this]
 · obtain⟨h1,h2⟩:=(mem_drop_ hi).1 hy
   intro e
   obtain⟨s,h3,h4,my⟩:=h.bw y h1
   have:s=sx:=hs.uniq h3 hsx (by rw [← my.cl,← mx.cl];exact e)
   subst this
   exact h2 (by show y.obj.version=_;rw [my.ver,mx.ver])
 · exact h.bw y ((mem_drop_ hi).1 hy).1
theorem RelA.none_ {ss:List SesT} {is:List IntT} (h:RelA ss is) {cl:Nat} (hn:∀x ∈ is,x.client≠cl):Rel cl ss is:=⟨fun s h1 _ h3=>h.fw s h1 h3,hn,h.bw⟩
theorem Rel.shut {cl:Nat} {ss:List SesT} {is:List IntT} (hs:Ris natO SesT.client ss) (h:Rel cl ss is) {s:SesT} (e:s.client=cl) (ho:s.opn=false):RelA (putR natO SesT.client s ss) is:=by
 refine⟨fun t h1 h2=>?_,fun x hx=>?_⟩
 · rcases (mem_put hs).1 h1 with rfl | ⟨h3,h4⟩
   · rw [ho] at h2;cases h2
   · exact h.fw t h3 (by rw [← e];exact h4) h2
 · obtain⟨t,h1,h2,m⟩:=h.bw x hx
   exact⟨t,(mem_put hs).2 (.inr ⟨h1,fun e2=>h.no x hx (by rw [m.cl,e2,e])⟩),h2,m⟩
theorem Rel.open_ {cl:Nat} {ss:List SesT} {is:List IntT} (hs:Ris natO SesT.client ss) (h:Rel cl ss is) {s:SesT} {x:IntT} (e:s.client=cl) (ho:s.opn=true) (m:Mat s x):RelA (putR natO SesT.client s ss) (is ++ [x]):=by
 refine⟨fun t h1 h2=>?_,fun y hy=>?_⟩
 · rcases (mem_put hs).1 h1 with rfl | ⟨h3,h4⟩
   · exact⟨x,by simp,m⟩
   · obtain⟨y,hy,my⟩:=h.fw t h3 (by rw [← e];exact h4) h2
     exact⟨y,List.mem_append_left _ hy,my⟩
 · rcases List.mem_append.1 hy with hy | hy
   · obtain⟨t,h1,h2,my⟩:=h.bw y hy
     exact⟨t,(mem_put hs).2 (.inr ⟨h1,fun e2=>h.no y hy (by rw [my.cl,e2,e])⟩),h2,my⟩
   · rw [List.mem_singleton.1 hy]
     exact⟨s,(mem_put hs).2 (.inl rfl),ho,m⟩
end
section
open OctMath
structure Vers (os:List ObjT) (is:List IntT):Prop where
 oo:∀o ∈ os,∀o' ∈ os,o.version=o'.version→o=o'
 oi:∀o ∈ os,∀x ∈ is,o.version≠x.obj.version
theorem Vers.nodup {os:List ObjT} {is:List IntT} (ho:Ris bytO ObjT.key os) (hi:Ris natO verI is) (h:Vers os is):(os.map (·.version) ++ is.map verI).Nodup:=by
 refine List.nodup_append.2 ⟨nodup_map ho.nodup h.oo,hi.nodupK,fun a ha b hb e=>?_⟩
 obtain⟨o,h1,rfl⟩:=List.mem_map.1 ha
 obtain⟨x,h2,rfl⟩:=List.mem_map.1 hb
 exact h.oi o h1 x h2 e
theorem Vers.of {os:List ObjT} {is:List IntT} (h:(os.map (·.version) ++ is.map verI).Nodup):Vers os is:=by
 obtain⟨h1,h2,h3⟩:=List.nodup_append.1 h
 exact⟨nodup_inj h1,fun o ho x hx e=>h3 _ (List.mem_map.2 ⟨o,ho,rfl⟩) _ (List.mem_map.2 ⟨x,hx,rfl⟩) e⟩
structure Base (P:PlF) (m:MetT):Prop where
 k:1≤m.k∧m.k≤m.n∧m.n≤32
 gs:1≤m.groups∧m.groups≤64
 map:P.okM m.n m.map=true
 next:P.okM m.n m.next=true
 cut:Ris intO (fun x=>x) m.cut
 cutR:∀g ∈ m.cut,0≤g∧g<m.groups
 cutL:(m.cut.length:Int)<m.groups
 mv:if m.nep=m.mep then m.mem=m.nem∧m.cut=[] else m.nep=(m.mep+1) % 18446744073709551616
 objs:Ris bytO ObjT.key m.objs
 ints:Ris natO verI m.ints
 sess:Ris natO SesT.client m.sess
 wass:Ris wasO (fun x=>x) m.wass
 down:Ris intO (fun x=>x) m.down
 downR:∀d ∈ m.down,1≤d∧d≤32
 vers:Vers m.objs m.ints
 fitO:∀o ∈ m.objs,FitM P m o
 fitI:∀x ∈ m.ints,FitM P m x.obj
 sesR:∀s ∈ m.sess,1≤s.client∧s.client≤64∧s.seq≠0
structure Good (P:PlF) (m:MetT):Prop where
 base:Base P m
 rel:RelA m.sess m.ints
theorem Good.of {P:PlF} {m:MetT} (h:MayM P m):Good P m :=
 ⟨⟨h.k,h.gs,h.map,h.next,h.cut,h.cutR,h.cutL,h.mv,h.objs,h.ints,h.sess,h.wass,h.down,h.downR,Vers.of h.vers,h.fitO,h.fitI,h.sesR⟩,RelA.of h.sess h.ints h.sesO h.sesN⟩
theorem Good.may {P:PlF} {m:MetT} (g:Good P m):MayM P m :=
 have h:=g.base
 ⟨h.k,h.gs,h.map,h.next,h.cut,h.cutR,h.cutL,h.mv,h.objs,h.ints,h.sess,h.wass,h.down,h.downR,h.vers.nodup h.objs h.ints,h.fitO,h.fitI,h.sesR,
  fun s h1 h2=>by obtain⟨x,hx,m⟩:=g.rel.fw s h1 h2;exact⟨x,hx,m.ver,m.cl,m.seq⟩,g.rel.count h.sess h.ints⟩
theorem FitM.to {P:PlF} {m m':MetT} {o:ObjT} (h:FitM P m o) (h1:m'.n=m.n) (h2:m'.groups=m.groups) (h3:m.last≤m'.last) (h4:m'.map=m.map) (h5:m'.next=m.next):FitM P m' o:=by
 have e:∀ep,m'.of ep=m.of ep:=fun ep=>by
  unfold MetT.of
  rw [h4,h5,show m'.mep=m.mep from congrArg Prod.fst h4]
 exact⟨h.key,h.keyL,h.ver,Nat.le_trans h.last h3,h.size,by rw [h2];exact h.grp,by rw [e];exact h.ep,by rw [e,h1];exact h.nodes⟩
theorem ris_waste {ws:List WasT} (h:Ris wasO (fun x=>x) ws) (o:ObjT):Ris wasO (fun x=>x) (wasteF ws o):=by
 unfold wasteF
 generalize wastesOf o=l
 induction l generalizing ws with
 | nil=>exact h
 | cons w l ih=>exact ih (ris_put h)
section
variable {P:PlF} {m:MetT}
theorem Base.less (h:Base P m) {os:List ObjT} {is:List IntT} {ws:List WasT} (ho:Ris bytO ObjT.key os) (hi:Ris natO verI is) (hw:Ris wasO (fun x=>x) ws) (so:∀o ∈ os,o ∈ m.objs) (si:∀x ∈ is,x ∈ m.ints):Base P { m with objs:=os,ints:=is,wass:=ws } :=
 ⟨h.k,h.gs,h.map,h.next,h.cut,h.cutR,h.cutL,h.mv,ho,hi,h.sess,hw,h.down,h.downR,⟨fun a ha b hb=>h.vers.oo a (so a ha) b (so b hb),fun a ha x hx=>h.vers.oi a (so a ha) x (si x hx)⟩,
  fun o hh=>(h.fitO o (so o hh)).to rfl rfl (Nat.le_refl _) rfl rfl,fun x hh=>(h.fitI x (si x hh)).to rfl rfl (Nat.le_refl _) rfl rfl,h.sesR⟩
theorem Base.ses (h:Base P m) {s:SesT} (hs:1≤s.client∧s.client≤64∧s.seq≠0):Base P (putSess m s) :=
 ⟨h.k,h.gs,h.map,h.next,h.cut,h.cutR,h.cutL,h.mv,h.objs,h.ints,ris_put h.sess,h.wass,h.down,h.downR,h.vers,
  fun o hh=>(h.fitO o hh).to rfl rfl (Nat.le_refl _) rfl rfl,fun x hh=>(h.fitI x hh).to rfl rfl (Nat.le_refl _) rfl rfl,fun t ht=>by
   rcases (mem_put h.sess).1 ht with rfl | ⟨h1,_⟩
   · exact hs
   · exact h.sesR t h1⟩
theorem Base.give (h:Base P m) (x:IntT):Base P (giveUpM m x):=h.less (os:=m.objs) h.objs (ris_drop h.ints) (ris_waste h.wass _) (fun _ k=>k) (fun y hy=>((mem_drop_ h.ints).1 hy).1)
theorem away_base (h:Base P m) (key:List Nat):Base P (awayM m key).1∧(awayM m key).1.sess=m.sess∧(awayM m key).1.ints=m.ints∧(awayM m key).1.last=m.last∧(awayM m key).1.objs=dropR bytO ObjT.key key m.objs:=by
 unfold awayM
 cases e:findR bytO ObjT.key key m.objs with
 | none=>exact⟨h,rfl,rfl,rfl,(drop_none h.objs e).symm⟩
 | some o=>exact⟨h.less (is:=m.ints) (ris_drop h.objs) h.ints (ris_waste h.wass _) (fun y hy=>((mem_drop_ h.objs).1 hy).1) (fun _ k=>k),rfl,rfl,rfl,rfl⟩
theorem ask_good (h:Good P m) (c:CmdT) {m':MetT} (e:askM m c = .inr m') :
 Base P m'∧Rel c.client m'.sess m'.ints∧m'.sess=m.sess∧m'.objs=m.objs∧m'.last=m.last∧(∀x ∈ m'.ints,x ∈ m.ints)∧askBad c=false∧(m'=m∨∃x ∈ m.ints,m'=giveUpM m x):=by
 unfold askM at e
 cases hb:askBad c with
 | true=>rw [hb,if_pos rfl] at e;cases e
 | false =>
   rw [hb,if_neg (by simp)] at e
   cases hf:findR natO SesT.client c.client m.sess with
   | none =>
     rw [hf] at e
     injection e with e
     subst e
     refine⟨h.base,h.rel.none_ fun x hx hc=>?_,rfl,rfl,rfl,fun _ k=>k,rfl,.inl rfl⟩
     obtain⟨s,h1,_,m1⟩:=h.rel.bw x hx
     exact (find_none h.base.sess).1 hf s h1 (by rw [← m1.cl];exact hc)
   | some s =>
     rw [hf] at e
     obtain⟨hs,hc⟩:=(find_some h.base.sess).1 hf
     simp only at e
     by_cases h1:c.seq<s.seq
     · rw [if_pos h1] at e;cases e
     rw [if_neg h1] at e
     by_cases h2:s.seq=c.seq∧s.opn=false
     · rw [if_pos h2] at e;cases e
     rw [if_neg h2] at e
     by_cases h3:s.opn=true
     · rw [if_pos h3] at e
       obtain⟨x,hx,mx⟩:=h.rel.fw s hs h3
       have hfx:findR natO verI s.version m.ints=some x:=(find_some h.base.ints).2 ⟨hx,mx.ver⟩
       rw [hfx] at e
       simp only at e
       injection e with e
       subst e
       have hr:=h.rel.some_ h.base.sess h.base.ints hx
       rw [mx.cl,hc] at hr
       exact⟨h.base.give x,hr,rfl,rfl,rfl,fun y hy=>((mem_drop_ h.base.ints).1 hy).1,rfl,.inr ⟨x,hx,rfl⟩⟩
     · rw [if_neg h3] at e
       injection e with e
       subst e
       refine⟨h.base,h.rel.none_ fun x hx hcx=>?_,rfl,rfl,rfl,fun _ k=>k,rfl,.inl rfl⟩
       obtain⟨t,t1,t2,m1⟩:=h.rel.bw x hx
       have:t=s:=h.base.sess.uniq t1 hs (by rw [← m1.cl,hcx,hc])
       subst this
       exact h3 t2
structure AskOk (c:CmdT):Prop where
 cl:1≤c.client∧c.client≤64
 seq:c.seq≠0
 key:c.key≠[]∧c.key.length≤64
 size:c.kind=1→0≤c.size∧c.size≤65536
theorem ask_ok {c:CmdT} (h:askBad c=false):AskOk c:=by
 unfold askBad sizedM at h
 simp only [Bool.or_eq_false_iff,decide_eq_false_iff_not,Bool.not_eq_false',Bool.or_eq_true,Bool.and_eq_true,decide_eq_true_eq] at h
 obtain⟨⟨⟨⟨⟨h1,h2⟩,h3⟩,h4⟩,h5⟩,h6⟩:=h
 exact⟨by omega,h3,⟨h4,by omega⟩,fun hk=>by rcases h6 with h6 | h6;exact absurd hk h6;exact h6⟩
structure Fresh (m:MetT):Prop where
 pos:0<m.last
 o:∀o ∈ m.objs,o.version<m.last
 i:∀x ∈ m.ints,x.obj.version<m.last
theorem of_next (h:Base P m):m.of m.nep=m.next:=by
 unfold MetT.of
 have:=h.mv
 by_cases e:m.nep=m.mep
 · rw [if_pos e]
   rw [if_pos e] at this
   unfold MetT.map MetT.next
   rw [e,this.1]
 · rw [if_neg e]
theorem begin_good (h:Good P m) (hf:Fresh m) (c:CmdT) (hk:c.kind=1):Good P (beginM P m c).1:=by
 unfold beginM
 cases e:askM m c with
 | inl r=>exact h
 | inr m' =>
   obtain⟨hb,hr,es,eo,el,hi,hbad,_⟩:=ask_good h c e
   have ok:=ask_ok hbad
   have hfo:∀o ∈ m'.objs,o.version<m'.last:=by rw [eo,el];exact hf.o
   have hfi:∀x ∈ m'.ints,x.obj.version<m'.last:=by rw [el];exact fun x hx=>hf.i x (hi x hx)
   have hp:0<m'.last:=by rw [el];exact hf.pos
   clear e es eo el hi hbad h hf
   have hfit:FitM P m' ⟨c.key,m'.last,c.size,c.sum,P.grp c.key m'.groups,m'.nep,P.nds m'.next (P.grp c.key m'.groups) m'.n⟩ :=
    ⟨ok.key.1,ok.key.2,hp,Nat.le_refl _,ok.size hk,rfl,by rw [of_next hb];rfl,by rw [of_next hb]⟩
   have hb2:Base P { m' with ints:=m'.ints ++ [⟨⟨c.key,m'.last,c.size,c.sum,P.grp c.key m'.groups,m'.nep,P.nds m'.next (P.grp c.key m'.groups) m'.n⟩,c.client,c.seq⟩] } :=
    ⟨hb.k,hb.gs,hb.map,hb.next,hb.cut,hb.cutR,hb.cutL,hb.mv,hb.objs,hb.ints.snoc fun y hy=>by show decide (_<_)=true;exact decide_eq_true (hfi y hy),hb.sess,hb.wass,hb.down,hb.downR,
     ⟨hb.vers.oo,fun o ho x hx=>by
      rcases List.mem_append.1 hx with hx | hx
      · exact hb.vers.oi o ho x hx
      · rw [List.mem_singleton.1 hx];exact Nat.ne_of_lt (hfo o ho)⟩,
     fun o ho=>(hb.fitO o ho).to rfl rfl (Nat.le_refl _) rfl rfl,fun x hx=>by
      rcases List.mem_append.1 hx with hx | hx
      · exact (hb.fitI x hx).to rfl rfl (Nat.le_refl _) rfl rfl
      · rw [List.mem_singleton.1 hx];exact hfit.to rfl rfl (Nat.le_refl _) rfl rfl,hb.sesR⟩
   exact⟨hb2.ses ⟨ok.cl.1,ok.cl.2,ok.seq⟩,hr.open_ hb.sess (s:=⟨c.client,c.seq,true,m'.last,0⟩) rfl rfl ⟨rfl,rfl,rfl⟩⟩
theorem remove_good (h:Good P m) (c:CmdT):Good P (removeM m c).1:=by
 unfold removeM
 cases e:askM m c with
 | inl r=>exact h
 | inr m' =>
   obtain⟨hb,hr,es,eo,el,hi,hbad,_⟩:=ask_good h c e
   have ok:=ask_ok hbad
   obtain⟨hb2,e1,e2,-,-⟩:=away_base hb c.key
   refine⟨hb2.ses (s:=⟨c.client,c.seq,false,0,if (awayM m' c.key).2 then 1 else 2⟩) ⟨ok.cl.1,ok.cl.2,ok.seq⟩,?_⟩
   show RelA (putR _ _ _ (awayM m' c.key).1.sess) (awayM m' c.key).1.ints
   rw [e1,e2]
   exact hr.shut hb.sess rfl rfl
theorem abort_good (h:Good P m) (c:CmdT):Good P (abortM m c).1:=by
 unfold abortM
 cases e:findR natO verI c.version m.ints with
 | none=>exact h
 | some x =>
   obtain⟨hx,hv⟩:=(find_some h.base.ints).1 e
   obtain⟨s,h1,h2,m1⟩:=h.rel.bw x hx
   have hr:=h.base.sesR s h1
   exact⟨(h.base.give x).ses (s:=⟨x.client,x.seq,false,c.version,3⟩) (by rw [m1.cl,m1.seq];exact hr),(h.rel.some_ h.base.sess h.base.ints hx).shut h.base.sess rfl rfl⟩
theorem commit_good (h:Good P m) (c:CmdT):Good P (commitM m c).1:=by
 unfold commitM
 cases e:findR natO verI c.version m.ints with
 | none=>exact h
 | some x =>
   obtain⟨hx,hv⟩:=(find_some h.base.ints).1 e
   obtain⟨s,h1,h2,m1⟩:=h.rel.bw x hx
   have hr:=h.base.sesR s h1
   have hb1:Base P { m with ints:=dropR natO verI c.version m.ints }:=h.base.less (os:=m.objs) (ws:=m.wass) h.base.objs (ris_drop h.base.ints) h.base.wass (fun _ k=>k) (fun y hy=>((mem_drop_ h.base.ints).1 hy).1)
   obtain⟨hb2,e1,e2,e3,e4⟩:=away_base hb1 x.obj.key
   have hfx:=h.base.fitI x hx
   have hvx:=h.base.vers
   have hnx:∀y ∈ dropR natO verI c.version m.ints,y.obj.version≠x.obj.version:=fun y hy=>by have:=((mem_drop_ h.base.ints).1 hy).2;rw [← hv] at this;exact this
   have hrel:=(h.rel.some_ h.base.sess h.base.ints hx).shut h.base.sess (s:=⟨x.client,x.seq,false,c.version,1⟩) rfl rfl
   have hv':x.obj.version=c.version:=hv
   rw [hv'] at hrel
   have hl:FitM P (awayM { m with ints:=dropR natO verI c.version m.ints } x.obj.key).1 x.obj:=by
    unfold awayM
    dsimp only
    split
    · exact hfx.to rfl rfl (Nat.le_refl _) rfl rfl
    · exact hfx.to rfl rfl (Nat.le_refl _) rfl rfl
   dsimp only
   generalize (awayM { m with ints:=dropR natO verI c.version m.ints } x.obj.key).1=m1' at *
   dsimp only at e1 e2 e3 e4
   have hnd:∀o ∈ m1'.objs,o ∈ m.objs:=fun o ho=>by rw [e4] at ho;exact ((mem_drop_ h.base.objs).1 ho).1
   have hb3:Base P { m1' with objs:=putR bytO ObjT.key x.obj m1'.objs } :=
    ⟨hb2.k,hb2.gs,hb2.map,hb2.next,hb2.cut,hb2.cutR,hb2.cutL,hb2.mv,ris_put hb2.objs,hb2.ints,hb2.sess,hb2.wass,hb2.down,hb2.downR,
     ⟨fun a ha b hb=>by
      rcases (mem_put hb2.objs).1 ha with rfl | ⟨a1,a2⟩ <;> rcases (mem_put hb2.objs).1 hb with rfl | ⟨b1,b2⟩
      · exact fun _=>rfl
      · exact fun e=>absurd e.symm (hvx.oi b (hnd b b1) x hx)
      · exact fun e=>absurd e (hvx.oi a (hnd a a1) x hx)
      · exact hb2.vers.oo a a1 b b1,
     fun a ha y hy=>by
      have hy':y ∈ m1'.ints:=hy
      rcases (mem_put hb2.objs).1 ha with rfl | ⟨a1,a2⟩
      · rw [e2] at hy';exact fun e=>hnx y hy' e.symm
      · exact hb2.vers.oi a a1 y hy'⟩,
     fun o ho=>by
      rcases (mem_put hb2.objs).1 ho with rfl | ⟨a1,a2⟩
      · exact hl.to rfl rfl (Nat.le_refl _) rfl rfl
      · exact (hb2.fitO o a1).to rfl rfl (Nat.le_refl _) rfl rfl,
     fun y hy=>(hb2.fitI y hy).to rfl rfl (Nat.le_refl _) rfl rfl,hb2.sesR⟩
   refine⟨hb3.ses (s:=⟨x.client,x.seq,false,c.version,1⟩) (by rw [m1.cl,m1.seq];exact hr),?_⟩
   show RelA (putR _ _ _ m1'.sess) m1'.ints
   rw [e1,e2]
   exact hrel
theorem coming_good (h:Good P m) (c:CmdT):Good P (comingM P m c).1:=by
 unfold comingM
 split
 · rename_i hc
   obtain⟨h1,h2,h3⟩:=hc
   have hne:m.nep=m.mep:=by unfold MetT.moving at h1;simpa using h1
   have hmv:=h.base.mv
   rw [if_pos hne] at hmv
   have hnn:¬c.mep=m.mep:=by intro e;omega
   have e:∀ep,ep=m.mep→MetT.of { m with nep:=c.mep,nem:=c.mem } ep=m.of ep:=fun ep e=>by unfold MetT.of;rw [if_pos e,if_pos e];rfl
   have hep:∀ {o},FitM P m o→o.epoch=m.mep:=fun {o} f=>by
    have h4:=f.ep
    unfold MetT.of at h4
    by_cases h5:o.epoch=m.mep
    · exact h5
    · rw [if_neg h5] at h4;exact absurd (h4.trans hne) h5
   have tr:∀ {o},FitM P m o→FitM P { m with nep:=c.mep,nem:=c.mem } o:=fun {o} f =>
    ⟨f.key,f.keyL,f.ver,f.last,f.size,f.grp,by rw [e _ (hep f)];exact f.ep,by rw [e _ (hep f)];exact f.nodes⟩
   exact⟨⟨h.base.k,h.base.gs,h.base.map,h3,h.base.cut,h.base.cutR,h.base.cutL,by rw [if_neg hnn];exact h2,h.base.objs,h.base.ints,h.base.sess,h.base.wass,h.base.down,h.base.downR,h.base.vers,
    fun o ho=>tr (h.base.fitO o ho),fun x hx=>tr (h.base.fitI x hx),h.base.sesR⟩,h.rel⟩
 · exact h
theorem find_ver {v:Nat} {l:List ObjT} {o:ObjT} (h:l.find? (fun o=>o.version == v)=some o):o ∈ l∧o.version=v:=⟨List.mem_of_find?_eq_some h,by have:=List.find?_some h;simpa using this⟩
theorem moved_good (h:Good P m) (c:CmdT):Good P (movedM P m c).1:=by
 unfold movedM
 cases e:m.objs.find? (fun o=>o.version == c.version) with
 | none=>exact h
 | some o =>
   obtain⟨ho,hv⟩:=find_ver e
   dsimp only
   split
   · rename_i hc
     obtain⟨h1,h2⟩:=hc
     have f:=h.base.fitO o ho
     have hf:FitM P m { o with epoch:=c.epoch,nodes:=P.nds m.next o.group m.n } :=
      ⟨f.key,f.keyL,f.ver,f.last,f.size,f.grp,by show c.epoch=_;rw [h1,of_next h.base];rfl,by show _=P.nds (m.of c.epoch) _ _;rw [h1,of_next h.base]⟩
     have hput:∀y,y ∈ putR bytO ObjT.key { o with epoch:=c.epoch,nodes:=P.nds m.next o.group m.n } m.objs↔_:=fun y=>mem_put h.base.objs
     refine⟨⟨h.base.k,h.base.gs,h.base.map,h.base.next,h.base.cut,h.base.cutR,h.base.cutL,h.base.mv,ris_put h.base.objs,h.base.ints,h.base.sess,ris_waste h.base.wass _,h.base.down,h.base.downR,⟨fun a ha b hb hab=>?_,fun a ha x hx=>?_⟩,fun a ha=>?_,fun x hx=>(h.base.fitI x hx).to rfl rfl (Nat.le_refl _) rfl rfl,h.base.sesR⟩,h.rel⟩
     · rcases (hput a).1 ha with rfl | ⟨a1,a2⟩ <;> rcases (hput b).1 hb with rfl | ⟨b1,b2⟩
       · rfl
       · exact absurd (congrArg ObjT.key (h.base.vers.oo o ho b b1 hab)).symm b2
       · exact absurd (congrArg ObjT.key (h.base.vers.oo a a1 o ho hab)) a2
       · exact h.base.vers.oo a a1 b b1 hab
     · rcases (hput a).1 ha with rfl | ⟨a1,a2⟩
       · exact h.base.vers.oi o ho x hx
       · exact h.base.vers.oi a a1 x hx
     · rcases (hput a).1 ha with rfl | ⟨a1,a2⟩
       · exact hf.to rfl rfl (Nat.le_refl _) rfl rfl
       · exact (h.base.fitO a a1).to rfl rfl (Nat.le_refl _) rfl rfl
   · exact h
structure CutI (m:MetT):Prop where
 o:∀o ∈ m.objs,o.group ∈ m.cut→o.epoch=m.nep
 i:∀x ∈ m.ints,x.obj.group ∈ m.cut→x.obj.epoch=m.nep
theorem all_in:∀ (n:Nat) (l:List Int),l.Nodup→(∀g ∈ l,0≤g∧g<(n:Int))→l.length=n→∀g:Int,0≤g→g<(n:Int)→g ∈ l:=by
 intro n l hn hr hl g h0 h1
 by_cases hg:g ∈ l
 · exact hg
 · exfalso
   have:=nodup_le (l:=g :: l) (k:=(List.range n).map fun i:Nat=>(i:Int)) (List.nodup_cons.2 ⟨hg,hn⟩) fun x hx=>by
    have hx2:0≤x∧x<(n:Int):=by
     rcases List.mem_cons.1 hx with rfl | hx
     · exact⟨h0,h1⟩
     · exact hr x hx
    exact List.mem_map.2 ⟨x.toNat,List.mem_range.2 (by omega),by omega⟩
   simp at this
   omega
theorem cut_full (h:Good P m) (hc:CutI m) (c:CmdT) (hg:0≤c.group∧c.group<m.groups) (ho:m.objs.any (oldM m c.group)=false) (hi:m.ints.any (fun x=>oldM m c.group x.obj)=false)
 (hl:((putR intO (fun x=>x) c.group m.cut).length:Int)=m.groups):(∀o ∈ m.objs,o.epoch=m.nep)∧∀x ∈ m.ints,x.obj.epoch=m.nep:=by
 have hr:=ris_put (x:=c.group) h.base.cut
 have hin:∀g:Int,0≤g→g<m.groups→g=c.group∨g ∈ m.cut:=fun g g0 g1=>by
  have:=all_in m.groups.toNat _ hr.nodup (fun y hy=>by
   rcases (mem_put h.base.cut).1 hy with rfl | ⟨h1,_⟩
   · have:=h.base.gs;omega
   · have:=h.base.cutR y h1;omega) (by omega) g g0 (by omega)
  rcases (mem_put h.base.cut).1 this with rfl | ⟨h1,_⟩
  · exact .inl rfl
  · exact .inr h1
 have hgr:∀ {o},FitM P m o→0≤o.group∧o.group<m.groups:=fun {o} f=>by rw [f.grp];exact P.grpR _ _ h.base.gs.1 h.base.gs.2
 have old:∀ {o},oldM m c.group o=false→o.group=c.group→o.epoch=m.nep:=fun {o} h1 h2=>by
  unfold oldM at h1
  simp only [Bool.and_eq_false_iff,decide_eq_false_iff_not,ne_eq,Decidable.not_not] at h1
  rcases h1 with h1 | h1
  · exact absurd h2 h1
  · exact h1
 constructor
 · intro o h1
   obtain⟨a,b⟩:=hgr (h.base.fitO o h1)
   rcases hin _ a b with e | e
   · exact old (List.any_eq_false.1 ho o h1 |> fun k=>by simpa using k) e
   · exact hc.o o h1 e
 · intro x h1
   obtain⟨a,b⟩:=hgr (h.base.fitI x h1)
   rcases hin _ a b with e | e
   · exact old (List.any_eq_false.1 hi x h1 |> fun k=>by simpa using k) e
   · exact hc.i x h1 e
theorem cut_good (h:Good P m) (hc:CutI m) (c:CmdT):Good P (cutM m c).1:=by
 unfold cutM
 split
 · exact h
 rename_i hn
 split
 · exact h
 rename_i ha
 have ho:m.objs.any (oldM m c.group)=false:=by cases e:m.objs.any (oldM m c.group) <;> simp_all
 have hi:m.ints.any (fun x=>oldM m c.group x.obj)=false:=by cases e:m.ints.any (fun x=>oldM m c.group x.obj) <;> simp_all
 have hmv:m.moving=true:=by cases e:m.moving with | false=>exact absurd (.inl e) hn | true=>rfl
 have hg:0≤c.group∧c.group<m.groups:=⟨by have:=fun k=>hn (.inr (.inl k));omega,by have:=fun k=>hn (.inr (.inr (.inl k)));omega⟩
 have hnc:c.group ∉ m.cut:=fun k=>hn (.inr (.inr (.inr k)))
 have hne:¬m.nep=m.mep:=by unfold MetT.moving at hmv;simpa using hmv
 have hmv2:=h.base.mv
 rw [if_neg hne] at hmv2
 dsimp only
 split
 · rename_i hl
   obtain⟨k1,k2⟩:=cut_full h hc c hg ho hi hl
   have tr:∀ {o},FitM P m o→o.epoch=m.nep→FitM P { m with mep:=m.nep,mem:=m.nem,cut:=[] } o:=fun {o} f e=>by
    have e1:m.of o.epoch=m.next:=by rw [e];exact of_next h.base
    have e2:MetT.of { m with mep:=m.nep,mem:=m.nem,cut:=[] } o.epoch=m.next:=by unfold MetT.of;rw [if_pos e];rfl
    exact⟨f.key,f.keyL,f.ver,f.last,f.size,f.grp,by rw [e2,← e1];exact f.ep,by rw [e2,← e1];exact f.nodes⟩
   exact⟨⟨h.base.k,h.base.gs,h.base.next,h.base.next,List.Pairwise.nil,(fun g hg=>by cases hg),(by have:=h.base.gs;show ((0:Nat):Int)<m.groups;omega),(by rw [if_pos rfl];exact⟨rfl,rfl⟩),h.base.objs,h.base.ints,h.base.sess,h.base.wass,h.base.down,h.base.downR,h.base.vers,
    fun o ho=>tr (h.base.fitO o ho) (k1 o ho),fun x hx=>tr (h.base.fitI x hx) (k2 x hx),h.base.sesR⟩,h.rel⟩
 · rename_i hl
   have hlen:((putR intO (fun x=>x) c.group m.cut).length:Int)<m.groups:=by
    have h1:=h.base.cutL
    have h2:=put_len (o:=intO) (key:=fun x=>x) (x:=c.group) h.base.cut
    split at h2 <;> omega
   exact⟨⟨h.base.k,h.base.gs,h.base.map,h.base.next,ris_put h.base.cut,fun g hg'=>by
    rcases (mem_put h.base.cut).1 hg' with rfl | ⟨h1,_⟩
    · exact hg
    · exact h.base.cutR g h1,hlen,by rw [if_neg hne];exact hmv2,h.base.objs,h.base.ints,h.base.sess,h.base.wass,h.base.down,h.base.downR,h.base.vers,
    fun o ho=>(h.base.fitO o ho).to rfl rfl (Nat.le_refl _) rfl rfl,fun x hx=>(h.base.fitI x hx).to rfl rfl (Nat.le_refl _) rfl rfl,h.base.sesR⟩,h.rel⟩
theorem gone_good (h:Good P m) (c:CmdT):Good P (goneM m c).1 :=
 ⟨h.base.less (os:=m.objs) (is:=m.ints) h.base.objs h.base.ints (ris_drop h.base.wass) (fun _ k=>k) (fun _ k=>k),h.rel⟩
theorem Base.down_ (h:Base P m) {l:List Int} (hl:Ris intO (fun x=>x) l) (hr:∀d ∈ l,1≤d∧d≤32):Base P { m with down:=l } :=
 ⟨h.k,h.gs,h.map,h.next,h.cut,h.cutR,h.cutL,h.mv,h.objs,h.ints,h.sess,h.wass,hl,hr,h.vers,
  fun o hh=>(h.fitO o hh).to rfl rfl (Nat.le_refl _) rfl rfl,fun x hh=>(h.fitI x hh).to rfl rfl (Nat.le_refl _) rfl rfl,h.sesR⟩
theorem live_good (h:Good P m) (c:CmdT):Good P (liveM m c).1:=by
 unfold liveM
 split
 · rename_i hn
   dsimp only
   split
   · exact⟨h.base.down_ (ris_drop h.base.down) (fun d hd=>h.base.downR d ((mem_drop_ h.base.down).1 hd).1),h.rel⟩
   · exact⟨h.base.down_ (ris_put h.base.down) (fun d hd=>by
      rcases (mem_put h.base.down).1 hd with rfl | ⟨h1,_⟩
      · exact hn
      · exact h.base.downR d h1),h.rel⟩
 · exact h
theorem step_good (h:Good P m) (hf:Fresh m) (c:CmdT) (hc:c.kind=7→CutI m):Good P (stepM P m c).1:=by
 unfold stepM
 split
 · rename_i hk;exact begin_good h hf c hk
 split
 · exact commit_good h c
 split
 · exact abort_good h c
 split
 · exact remove_good h c
 split
 · exact coming_good h c
 split
 · exact moved_good h c
 split
 · rename_i hk;exact cut_good h (hc hk) c
 split
 · exact gone_good h c
 split
 · exact live_good h c
 · exact h
theorem Good.later (h:Good P m) {l:Nat} (hl:m.last≤l):Good P { m with last:=l } :=
 have b:=h.base
 ⟨⟨b.k,b.gs,b.map,b.next,b.cut,b.cutR,b.cutL,b.mv,b.objs,b.ints,b.sess,b.wass,b.down,b.downR,b.vers,fun o hh=>(b.fitO o hh).to rfl rfl hl rfl rfl,fun x hh=>(b.fitI x hh).to rfl rfl hl rfl rfl,b.sesR⟩,h.rel⟩
theorem Good.fresh (h:Good P m) {l:Nat} (hl:m.last<l):Fresh { m with last:=l } :=
 ⟨by show 0<l;omega,fun o ho=>Nat.lt_of_le_of_lt (h.base.fitO o ho).last hl,fun x hx=>Nat.lt_of_le_of_lt (h.base.fitI x hx).last hl⟩
theorem apply_good (h:Good P m) {ix:Nat} (hl:m.last<ix) (c:CmdT) (hc:c.kind=7→CutI m):Good P (applyM P m ix c).1 :=
 step_good (h.later (Nat.le_of_lt hl)) (h.fresh hl) c fun k=>⟨(hc k).o,(hc k).i⟩
end
end
end Go.Proofs.YtdoneomahlfkbaaGreat
