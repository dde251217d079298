/- THE REFERENCE'S P, READING OR WRITING: rows of objects. (printed by gen_paq14.py); THE REFERENCE'S P, READING OR WRITING: rows of intents. (printed by -/
import Derived.Test.YtdoneomahlfkbaaGreatOnc29
set_option linter.unusedVariables false
set_option linter.unusedSimpArgs false
set_option maxRecDepth 100000
set_option maxHeartbeats 8000000
namespace Go.Proofs.YtdoneomahlfkbaaGreat
section
open Go.RowKit OctMath
variable {σ:Type}
def zOM:OM:=⟨⟨[],0,0,0,0,0,[]⟩,none,0⟩
def objsF (M:Md σ) (s:σ) (l:List ObjT):σ×List ObjT:=itF M (objF M) (fun i=>l.getD i (zOM).x) (M.len s l.length).2 (M.len s l.length).1
theorem zOM_ok:ObjOk (zOM).x:=⟨⟨(by intro y h;cases h),by decide⟩,by decide,⟨by decide,by decide⟩,by decide,⟨by decide,by decide⟩,by decide,⟨(by intro y h;cases h),by decide⟩⟩
theorem f_objs {M:Md σ} (hM:MdOk M) {s:σ} {a:Nat} {l:List ObjT} (HO:(∀y ∈ l,ObjOk y)∧l.length≤1048576) (h:M.fit s (a+12094799872010)):M.fit (objsF M s l).1 a:=by
 have h1:=hM.f_len (s:=s) (a:=a+12094799872000) (x:=l.length) h (by have:=HO.2;omega)
 have h2:=hM.r_len (s:=s) (x:=l.length) HO.2
 exact itF_fit hM (one:=objF M) (arg:=fun i=>l.getD i (zOM).x) (c:=11534500) (fun s i a h=>f_object hM (getD_all (P:=ObjOk) HO.1 zOM_ok i) h) _ a (hM.mono h1 (by omega))
def RetObs (M:Md σ) (s':σ) (xs:List ObjT) (w:World) (e:Ending) (w':World):Prop :=
 ∃A c,∃os:List OM,e = .returned (.slice A xs.length c)∧Lx M w.heap.size 7 A c os.length (os.flatMap omCs) w'∧LxL M w.heap.size (os.map OM.row) w'∧os.map (·.x)=xs∧M.St s' w'∧Stp M w w'
theorem pf_objs (M:Md σ) (hM:MdOk M) (s:σ) (A:Option Addr) (n cap:Nat) (ms:List OM) (w:World) (hS:Hid (M.St s w)) (hL:Hid (Ls M 7 A n (ms.flatMap omCs) w)) (hU:Hid (InsL M w.heap.size (ms.map OM.row) w)) (hn:Hid (ms.length=n)) (hn2:n≤1048576) (hI:Hid (∀m ∈ ms,ObjOk m.x)) (hz:Hid (M.write=false→ms=[])) (hf:Hid (M.fit s 12094799872010)) :
 Calls Tryz.prog 110 #[.pointer (some ⟨M.g,0,none⟩),.slice A n cap] w (RetObs M (objsF M s (ms.map (·.x))).1 (objsF M s (ms.map (·.x))).2 w):=by
 have HR:=Lh (show objsF M s (ms.map (·.x))=itF M (objF M) (fun i=>(ms.getD i zOM).x) (M.len s ms.length).2 (M.len s ms.length).1 from by
  have e:(fun i=>(ms.map (·.x)).getD i (zOM).x)=(fun i=>(ms.getD i zOM).x):=funext fun i=>getD_map' (fun m:OM=>m.x) ms zOM i
  unfold objsF
  rw [e,List.length_map])
 have HC:=Lh (hM.c_len s n w hS (by omega) (hM.mono hf.out (by omega)))
 have hm:=hM.r_len (s:=s) (x:=n) hn2
 have HW:=Lh (fun h=>hM.wlen h s n)
 have HF:=Lh (hM.f_len (s:=s) (a:=12094799872000) (x:=n) hf.out (by omega))
 have HIG:=Lh (fun i=>getD_all (P:=fun m:OM=>ObjOk m.x) (z:=zOM) hI.out zOM_ok i)
 rw [hn.out] at HR
 generalize objsF M s (ms.map (·.x))=R at *
 generalize M.len s n=r at *
 obtain⟨s1,m⟩:=r
 simp only at HC HR hm HW HF
 go_enter Tryz.func110,Tryz.ntmps110
 go_wp2_with fail
 refine HC.out.mono ?_
 rintro e w2 ⟨rfl,hs1,hk1⟩
 have HG0:=Lh (Gr.start 58 7 ((Wk.start hS.out).call hs1 hk1))
 have HL1:=Lh (hL.out.call hk1)
 have HA:=Lh (show 0<n→∀ad,A=some ad→ad.block<w2.heap.size from fun h ad e=>(HL1.out.free h ad e).lt)
 have HU1:=Lh (show InsL M w2.heap.size (ms.map OM.row) w2 from ⟨fun m hm=>⟨((hU.out.all m hm).1.call hk1),fun h ad e=>Nat.lt_of_lt_of_le ((hU.out.all m hm).2 h ad e) hk1.size⟩⟩)
 have hk2:=Lh hk1.size
 clear hs1 hk1 HC
 go_wp2
 go_loopw [6,7,8] (fun vo vi _ wr=>∃ (k:Nat) (s':σ) (ys:List OM),k≤m∧vi = .int .i64 k∧Hid (itF M (objF M) (fun i=>(ms.getD i zOM).x) k s1=(s',(ys.map (·.x))))∧Hid (Gr M w w2 58 7 vo k (ys.flatMap omCs) s' wr)∧Hid (ys.length=k)∧Hid (Ls M 7 A n (ms.flatMap omCs) wr)∧Hid (InsL M w2.heap.size (ms.map OM.row) wr)∧Hid (Sbs M w2.heap.size vo (ys.map OM.row) wr)) (fun _ vi _ _=>m - (intOf vi).toNat)
 case atStart=>exact⟨0,s1,[],by omega,rfl,Lh rfl,HG0,Lh rfl,HL1,HU1,Lh (Sbs.nil _ _ _ _)⟩
 case round =>
  obtain⟨k,s',ys,hk,rfl,hT,hG,hlen,hLr,hUr,hVr⟩:=hrel
  clear HG0 HL1 HU1
  have hcw:=hM.cwrite hG.out.wk.st
  have hcb:=hM.cbad hG.out.wk.st
  by_cases hlt:k<m
  · have d1:decide (k<m)=true:=decide_eq_true hlt
    cases hbad:M.bad s' with
    | true =>
      rw [hbad] at hcb
      have hb:M.bad (itF M (objF M) (fun i=>(ms.getD i zOM).x) k s1).1=true:=by rw [hT.out];exact hbad
      have HE:=Lh ((HR.out.trans (itF_bad hb hk)).trans hT.out)
      clear hbad hb
      go_wp2
      go_ret
      rw [HE.out]
      obtain⟨A1,c1,e1,h1,h2,h3⟩:=hG.out.list
      injection e1 with e1
      subst e1
      have hsz:=hk2.out
      exact⟨A1,c1,ys,by rw [List.length_map,hlen.out];rfl,by rw [hlen.out];exact h1,⟨fun r hr=>(hVr.out.all r hr).1.mono hsz⟩,rfl,h2,h3⟩
    | false =>
      rw [hbad] at hcb
      have HT1:=Lh (itF_more hT.out hbad)
      have hfk:=itF_fit hM (one:=objF M) (arg:=(fun i=>(ms.getD i zOM).x)) (c:=11534500) (fun s i a h=>f_object hM (HIG.out i) h) k 11534500 (hM.mono HF.out (by omega))
      rw [hT.out] at hfk
      have HFK:=Lh hfk
      have HOE:=Lh (HIG.out k)
      clear hbad hfk
      cases hw:M.write with
      | true =>
        rw [hw] at hcw
        have HWW:=Lh hw
        obtain rfl:=HW.out hw
        obtain⟨ad,hA,hbl,hc⟩:=hLr.out.rd.2 (by omega:0<m)
        subst hA
        have hke:k<ms.length:=by rw [hn.out];exact hlt
        have hrow:=row_cells (cells:=omCs) (size:=7) (fun _=>rfl) hc hke
        have hge:ms.getD k zOM=ms[k]:=by rw [List.getD_eq_getElem?_getD,List.getElem?_eq_getElem hke];rfl
        have hmm:=List.getElem_mem hke
        have hrw:=Lh ((hUr.out.all _ (List.mem_map.2 ⟨_,hmm,rfl⟩:OM.row ms[k] ∈ ms.map OM.row)).1)
        have hrz:=Lh (fun h=>absurd (hw.symm.trans h) (by decide):M.write=false→(ms[k]).x.nodes=[])
        rw [hge] at HT1 HOE
        obtain⟨m0,hm0⟩:∃m0,ms[k]=m0:=⟨_,rfl⟩
        rw [hm0] at HT1 HOE hrow hrw hrz
        have HROW:=Lh (cells_below' hrow (by rw [block_of_add];exact hbl):∀W,Below wr.heap.size wr W→_)
        clear hw hc hbl hrow hge hm0 hmm
        obtain⟨x,hx⟩:∃x,wr.heap.size=x:=⟨_,rfl⟩
        have hbs:=Lh (hG.out.off (Nat.le_refl _))
        have haL:=Lh (hLr.out.apart (Nat.le_refl _))
        have haU:=Lh (hUr.out.apart (Nat.le_refl _))
        have haV:=Lh (hVr.out.apart (Nat.le_refl _))
        have haW:=Lh (hrw.out.apart (Nat.le_refl _))
        have hnw:=Blk.new wr 58 #[.string ⟨#[]⟩,.int .u64 0,.int .i64 0,.int .u32 0,.int .i64 0,.int .u64 0,.slice none 0 0]
        rw [hx] at hbs haL hnw haU haV haW
        have HNW:=Lh hnw
        clear hnw
        go_wp2_with (first
         | (refine wpl_store_blk rfl 58 (.tmp 8) (.tmp 25) rfl x 58 #[.string ⟨#[]⟩,.int .u64 0,.int .i64 0,.int .u32 0,.int .i64 0,.int .u64 0,.slice none 0 0] #[.string ⟨#[]⟩,.int .u64 0,.int .i64 0,.int .u32 0,.int .i64 0,.int .u64 0,.slice none 0 0] rfl rfl HNW.out rfl Tryz.sizeO rfl ?_;intro w4 hB4 hO4
            have hX:=(Bk.new hM hG.out.wk #[.string ⟨#[]⟩,.int .u64 0,.int .i64 0,.int .u32 0,.int .i64 0,.int .u64 0,.slice none 0 0] 58)
            have hG4:=hG.out.alloc hM (.cells #[.string ⟨#[]⟩,.int .u64 0,.int .i64 0,.int .u32 0,.int .i64 0,.int .u64 0,.slice none 0 0] 58)
            rw [hx] at hX
            have X4:=Lh (hX.turn hM hG4.wk.st hO4.out hB4.out)
            have G4:=Lh (hG4.only hM hX hO4.out hbs.out)
            have L4:=Lh ((hLr.out.alloc hM hG.out.wk.st (.cells #[.string ⟨#[]⟩,.int .u64 0,.int .i64 0,.int .u32 0,.int .i64 0,.int .u64 0,.slice none 0 0] 58)).only hM hG4.wk.st hO4.out hX.free haL.out)
            have U4:=Lh ((hUr.out.alloc hM hG.out.wk.st (.cells #[.string ⟨#[]⟩,.int .u64 0,.int .i64 0,.int .u32 0,.int .i64 0,.int .u64 0,.slice none 0 0] 58)).only hM hG4.wk.st hO4.out hX.free haU.out)
            have V4:=Lh ((hVr.out.alloc hM hG.out.wk.st (.cells #[.string ⟨#[]⟩,.int .u64 0,.int .i64 0,.int .u32 0,.int .i64 0,.int .u64 0,.slice none 0 0] 58)).only hM hG4.wk.st hO4.out hX.free haV.out)
            have W4:=Lh ((hrw.out.alloc hM hG.out.wk.st (.cells #[.string ⟨#[]⟩,.int .u64 0,.int .i64 0,.int .u32 0,.int .i64 0,.int .u64 0,.slice none 0 0] 58)).only hM hG4.wk.st hO4.out hX.free haW.out)
            have pw:=hM.cwrite G4.out.wk.st
            rw [HWW.out] at pw
            have HRW:=Lh (HROW.out w4 (((Below.refl _ _).alloc (Nat.le_refl _) _).trans (hO4.out.below (by rw [hx];exact Nat.le_refl _))))
            clear hX hG4 hB4 hO4)
         | (refine wpl_load_at rfl 58 (.tmp 32) rfl (ad.add (k*7)) (#[.string (strOf m0.x.key),.int .u64 (m0.x.version:Int),.int .i64 m0.x.size,.int .u32 (m0.x.sum:Int),.int .i64 m0.x.group,.int .u64 (m0.x.epoch:Int),.slice m0.A m0.x.nodes.length m0.c]:Array Value).toList _ rfl HRW.out Tryz.underlying58 rfl Tryz.sizeO ?_)
         | (refine wpl_store_blk rfl 58 (.tmp 8) (.tmp 33) rfl x 58 _ #[.string (strOf m0.x.key),.int .u64 (m0.x.version:Int),.int .i64 m0.x.size,.int .u32 (m0.x.sum:Int),.int .i64 m0.x.group,.int .u64 (m0.x.epoch:Int),.slice m0.A m0.x.nodes.length m0.c] rfl rfl X4.out.blk rfl Tryz.sizeO rfl ?_;intro w5 hB5 hO5
            have G:=Lh (G4.out.only hM X4.out hO5.out hbs.out)
            have X:=Lh (X4.out.turn hM G4.out.wk.st hO5.out hB5.out)
            have L:=Lh (L4.out.only hM G4.out.wk.st hO5.out X4.out.free haL.out)
            have U:=Lh (U4.out.only hM G4.out.wk.st hO5.out X4.out.free haU.out)
            have V:=Lh (V4.out.only hM G4.out.wk.st hO5.out X4.out.free haV.out)
            have RW:=Lh (W4.out.only hM G4.out.wk.st hO5.out X4.out.free haW.out)
            clear pw HWW hB5 hO5 G4 X4 L4 HRW U4 V4 W4)
         | (refine wpl_load_blk rfl 58 (.tmp 8) rfl x 58 _ _ rfl X.out.blk Tryz.underlying58 rfl Tryz.sizeO ?_))
        have RZ:=hrz
        have HC:=Lh (pf_object M hM s' m0.A m0.c m0.x _ (Lh G.out.wk.st) RW HOE.out (Lh RZ.out) (Lh HFK.out))
        generalize objF M s' m0.x=r at *
        obtain⟨s9,z⟩:=r
        simp only at HC HT1
        refine HC.out.mono ?_
        rintro e w6 ⟨A7,c7,rfl,l7,hs,hk⟩
        clear HC RW
        unfold objCs
        have N:=Lh (And.intro (l7.mono G.out.hi) (G.out.off_new l7.lo))
        have L:=Lh (L.out.call hk)
        have U:=Lh (U.out.call hk)
        have V:=Lh (V.out.call hk)
        have G:=Lh (G.out.call hs hk)
        clear hs hk l7
        go_wp2_with (first
         | (at_builtin
            refine wpl_gr3 hM rfl _ _ 29 _ 80 Tryz.underlying29 Tryz.infoObj rfl (by decide) (by decide) rfl G.out (by omega) [.string (strOf z.key),.int .u64 (z.version:Int),.int .i64 z.size,.int .u32 (z.sum:Int),.int .i64 z.group,.int .u64 (z.epoch:Int),.slice A7 z.nodes.length c7] rfl (by intro u hu;simp only [List.mem_cons,List.not_mem_nil,or_false] at hu;rcases hu with rfl | rfl | rfl | rfl | rfl | rfl | rfl <;> rfl) rfl rfl ?_
            intro v10 w10 hG10 hV10))
        refine⟨⟨k+1,s9,ys ++ [⟨z,A7,c7⟩],by omega,by go_num,Lh (by rw [List.map_append];exact HT1.out),Lh (by rw [List.flatMap_append];exact hG10.out.1),Lh (by rw [List.length_append,hlen.out];rfl),Lh (Ls.more hM (G.out.alloc hM _) hG10.out.2 (L.out.alloc hM G.out.wk.st _) HA.out),Lh (InsL.more hM (G.out.alloc hM _) hG10.out.2 (U.out.alloc hM G.out.wk.st _)),Lh (by rw [List.map_append];exact Sbs.more hM (G.out.alloc hM _) hG10.out.2 hV10.out ((V.out.add (r:=OM.row ⟨z,A7,c7⟩) N.out).alloc hM G.out.wk.st _))⟩,by simp [intOf];omega⟩
      | false =>
        rw [hw] at hcw
        have HWW:=Lh hw
        have hge:ms.getD k zOM=zOM:=by rw [hz.out hw];rfl
        rw [hge] at HT1 HOE
        obtain⟨m0,hm0⟩:∃m0,zOM=m0:=⟨_,rfl⟩
        have hrw:=Lh (show Ls M 1 m0.A m0.x.nodes.length (m0.x.nodes.map iv) wr from by rw [← hm0];exact⟨Reads.none_,fun h=>absurd h (by decide)⟩)
        have hrz:=Lh (show M.write=false→m0.x.nodes=[] from fun _=>by rw [← hm0];rfl)
        rw [hm0] at HOE
        have HT1:=(show Hid (itF M (objF M) (fun i=>(ms.getD i zOM).x) (k+1) s1=((objF M s' m0.x).1,(ys.map (·.x)) ++ [(objF M s' m0.x).2])) from by rw [← hm0];exact HT1)
        clear hw hge
        obtain⟨x,hx⟩:∃x,wr.heap.size=x:=⟨_,rfl⟩
        have hbs:=Lh (hG.out.off (Nat.le_refl _))
        have haL:=Lh (hLr.out.apart (Nat.le_refl _))
        have haU:=Lh (hUr.out.apart (Nat.le_refl _))
        have haV:=Lh (hVr.out.apart (Nat.le_refl _))
        have haW:=Lh (hrw.out.apart (Nat.le_refl _))
        have hnw:=Blk.new wr 58 #[.string ⟨#[]⟩,.int .u64 0,.int .i64 0,.int .u32 0,.int .i64 0,.int .u64 0,.slice none 0 0]
        rw [hx] at hbs haL hnw haU haV haW
        have HNW:=Lh hnw
        clear hnw
        go_wp2_with (first
         | (refine wpl_store_blk rfl 58 (.tmp 8) (.tmp 25) rfl x 58 #[.string ⟨#[]⟩,.int .u64 0,.int .i64 0,.int .u32 0,.int .i64 0,.int .u64 0,.slice none 0 0] #[.string ⟨#[]⟩,.int .u64 0,.int .i64 0,.int .u32 0,.int .i64 0,.int .u64 0,.slice none 0 0] rfl rfl HNW.out rfl Tryz.sizeO rfl ?_;intro w4 hB4 hO4
            have hX:=(Bk.new hM hG.out.wk #[.string ⟨#[]⟩,.int .u64 0,.int .i64 0,.int .u32 0,.int .i64 0,.int .u64 0,.slice none 0 0] 58)
            have hG4:=hG.out.alloc hM (.cells #[.string ⟨#[]⟩,.int .u64 0,.int .i64 0,.int .u32 0,.int .i64 0,.int .u64 0,.slice none 0 0] 58)
            rw [hx] at hX
            have X4:=Lh (hX.turn hM hG4.wk.st hO4.out hB4.out)
            have G4:=Lh (hG4.only hM hX hO4.out hbs.out)
            have L4:=Lh ((hLr.out.alloc hM hG.out.wk.st (.cells #[.string ⟨#[]⟩,.int .u64 0,.int .i64 0,.int .u32 0,.int .i64 0,.int .u64 0,.slice none 0 0] 58)).only hM hG4.wk.st hO4.out hX.free haL.out)
            have U4:=Lh ((hUr.out.alloc hM hG.out.wk.st (.cells #[.string ⟨#[]⟩,.int .u64 0,.int .i64 0,.int .u32 0,.int .i64 0,.int .u64 0,.slice none 0 0] 58)).only hM hG4.wk.st hO4.out hX.free haU.out)
            have V4:=Lh ((hVr.out.alloc hM hG.out.wk.st (.cells #[.string ⟨#[]⟩,.int .u64 0,.int .i64 0,.int .u32 0,.int .i64 0,.int .u64 0,.slice none 0 0] 58)).only hM hG4.wk.st hO4.out hX.free haV.out)
            have W4:=Lh ((hrw.out.alloc hM hG.out.wk.st (.cells #[.string ⟨#[]⟩,.int .u64 0,.int .i64 0,.int .u32 0,.int .i64 0,.int .u64 0,.slice none 0 0] 58)).only hM hG4.wk.st hO4.out hX.free haW.out)
            have pw:=hM.cwrite G4.out.wk.st
            rw [HWW.out] at pw
            have X:=Lh (show Bk M w x 58 #[.string (strOf m0.x.key),.int .u64 (m0.x.version:Int),.int .i64 m0.x.size,.int .u32 (m0.x.sum:Int),.int .i64 m0.x.group,.int .u64 (m0.x.epoch:Int),.slice m0.A m0.x.nodes.length m0.c] w4 from (by rw [← hm0];exact X4.out))
            have G:=G4
            have L:=L4
            have U:=U4
            have V:=V4
            have RW:=W4
            clear hX hG4 hB4 hO4 G4 L4 X4 hm0 U4 V4 W4)
         | (refine wpl_load_blk rfl 58 (.tmp 8) rfl x 58 _ _ rfl X.out.blk Tryz.underlying58 rfl Tryz.sizeO ?_))
        have RZ:=hrz
        have HC:=Lh (pf_object M hM s' m0.A m0.c m0.x _ (Lh G.out.wk.st) RW HOE.out (Lh RZ.out) (Lh HFK.out))
        generalize objF M s' m0.x=r at *
        obtain⟨s9,z⟩:=r
        simp only at HC HT1
        refine HC.out.mono ?_
        rintro e w6 ⟨A7,c7,rfl,l7,hs,hk⟩
        clear HC RW
        unfold objCs
        have N:=Lh (And.intro (l7.mono G.out.hi) (G.out.off_new l7.lo))
        have L:=Lh (L.out.call hk)
        have U:=Lh (U.out.call hk)
        have V:=Lh (V.out.call hk)
        have G:=Lh (G.out.call hs hk)
        clear hs hk l7
        go_wp2_with (first
         | (at_builtin
            refine wpl_gr3 hM rfl _ _ 29 _ 80 Tryz.underlying29 Tryz.infoObj rfl (by decide) (by decide) rfl G.out (by omega) [.string (strOf z.key),.int .u64 (z.version:Int),.int .i64 z.size,.int .u32 (z.sum:Int),.int .i64 z.group,.int .u64 (z.epoch:Int),.slice A7 z.nodes.length c7] rfl (by intro u hu;simp only [List.mem_cons,List.not_mem_nil,or_false] at hu;rcases hu with rfl | rfl | rfl | rfl | rfl | rfl | rfl <;> rfl) rfl rfl ?_
            intro v10 w10 hG10 hV10))
        refine⟨⟨k+1,s9,ys ++ [⟨z,A7,c7⟩],by omega,by go_num,Lh (by rw [List.map_append];exact HT1.out),Lh (by rw [List.flatMap_append];exact hG10.out.1),Lh (by rw [List.length_append,hlen.out];rfl),Lh (Ls.more hM (G.out.alloc hM _) hG10.out.2 (L.out.alloc hM G.out.wk.st _) HA.out),Lh (InsL.more hM (G.out.alloc hM _) hG10.out.2 (U.out.alloc hM G.out.wk.st _)),Lh (by rw [List.map_append];exact Sbs.more hM (G.out.alloc hM _) hG10.out.2 hV10.out ((V.out.add (r:=OM.row ⟨z,A7,c7⟩) N.out).alloc hM G.out.wk.st _))⟩,by simp [intOf];omega⟩
  · obtain rfl:k=m:=by omega
    have HE:=Lh (HR.out.trans hT.out)
    go_wp2
    go_ret
    rw [HE.out]
    obtain⟨A1,c1,e1,h1,h2,h3⟩:=hG.out.list
    injection e1 with e1
    subst e1
    have hsz:=hk2.out
    exact⟨A1,c1,ys,by rw [List.length_map,hlen.out];rfl,by rw [hlen.out];exact h1,⟨fun r hr=>(hVr.out.all r hr).1.mono hsz⟩,rfl,h2,h3⟩
end
section
open Go.RowKit OctMath
variable {σ:Type}
def inteF (M:Md σ) (s:σ) (x:IntT):σ×IntT:=bnd (objF M s x.obj) fun s1 y1=>bnd (M.u64 s1 x.client) fun s2 y2=>bnd (M.u64 s2 x.seq) fun s3 y3=>(s3,⟨y1,y2,y3⟩)
def zIM:IM:=⟨⟨zOM.x,0,0⟩,none,0⟩
def ints2F (M:Md σ) (s:σ) (l:List IntT):σ×List IntT:=itF M (inteF M) (fun i=>l.getD i (zIM).x) (M.len s l.length).2 (M.len s l.length).1
theorem f_inteF {M:Md σ} (hM:MdOk M) {s:σ} {a:Nat} {x:IntT} (HO:InteOk x) (h:M.fit s (a+11534520)):M.fit (inteF M s x).1 a:=by
 show M.fit (bnd (objF M s x.obj) fun s1 y1=>bnd (M.u64 s1 x.client) fun s2 y2=>bnd (M.u64 s2 x.seq) fun s3 y3=>(s3,⟨y1,y2,y3⟩):σ×IntT).1 a
 have h1:=f_object hM (x:=x.obj) HO.obj (a:=a+20) (hM.mono h (by omega))
 generalize objF M s x.obj=r1 at *
 obtain⟨s1,y1⟩:=r1
 rw [bnd_mk]
 have h2:=hM.f_u64 (s:=s1) (x:=x.client) (a:=a+10) (hM.mono h1 (by omega)) HO.client
 generalize M.u64 s1 x.client=r2 at *
 obtain⟨s2,y2⟩:=r2
 rw [bnd_mk]
 have h3:=hM.f_u64 (s:=s2) (x:=x.seq) (a:=a+0) (hM.mono h2 (by omega)) HO.seq
 generalize M.u64 s2 x.seq=r3 at *
 obtain⟨s3,y3⟩:=r3
 rw [bnd_mk]
 exact hM.mono h3 (by omega)
theorem zIM_ok:InteOk (zIM).x:=⟨zOM_ok,by decide,by decide⟩
theorem f_ints2 {M:Md σ} (hM:MdOk M) {s:σ} {a:Nat} {l:List IntT} (HO:(∀y ∈ l,InteOk y)∧l.length≤1048576) (h:M.fit s (a+12094820843530)):M.fit (ints2F M s l).1 a:=by
 have h1:=hM.f_len (s:=s) (a:=a+12094820843520) (x:=l.length) h (by have:=HO.2;omega)
 have h2:=hM.r_len (s:=s) (x:=l.length) HO.2
 exact itF_fit hM (one:=inteF M) (arg:=fun i=>l.getD i (zIM).x) (c:=11534520) (fun s i a h=>f_inteF hM (getD_all (P:=InteOk) HO.1 zIM_ok i) h) _ a (hM.mono h1 (by omega))
def RetIns (M:Md σ) (s':σ) (xs:List IntT) (w:World) (e:Ending) (w':World):Prop :=
 ∃A c,∃os:List IM,e = .returned (.slice A xs.length c)∧Lx M w.heap.size 9 A c os.length (os.flatMap imCs) w'∧LxL M w.heap.size (os.map IM.row) w'∧os.map (·.x)=xs∧M.St s' w'∧Stp M w w'
theorem pf_ints2 (M:Md σ) (hM:MdOk M) (s:σ) (A:Option Addr) (n cap:Nat) (ms:List IM) (w:World) (hS:Hid (M.St s w)) (hL:Hid (Ls M 9 A n (ms.flatMap imCs) w)) (hU:Hid (InsL M w.heap.size (ms.map IM.row) w)) (hn:Hid (ms.length=n)) (hn2:n≤1048576) (hI:Hid (∀m ∈ ms,InteOk m.x)) (hz:Hid (M.write=false→ms=[])) (hf:Hid (M.fit s 12094820843530)) :
 Calls Tryz.prog 111 #[.pointer (some ⟨M.g,0,none⟩),.slice A n cap] w (RetIns M (ints2F M s (ms.map (·.x))).1 (ints2F M s (ms.map (·.x))).2 w):=by
 have HR:=Lh (show ints2F M s (ms.map (·.x))=itF M (inteF M) (fun i=>(ms.getD i zIM).x) (M.len s ms.length).2 (M.len s ms.length).1 from by
  have e:(fun i=>(ms.map (·.x)).getD i (zIM).x)=(fun i=>(ms.getD i zIM).x):=funext fun i=>getD_map' (fun m:IM=>m.x) ms zIM i
  unfold ints2F
  rw [e,List.length_map])
 have HC:=Lh (hM.c_len s n w hS (by omega) (hM.mono hf.out (by omega)))
 have hm:=hM.r_len (s:=s) (x:=n) hn2
 have HW:=Lh (fun h=>hM.wlen h s n)
 have HF:=Lh (hM.f_len (s:=s) (a:=12094820843520) (x:=n) hf.out (by omega))
 have HIG:=Lh (fun i=>getD_all (P:=fun m:IM=>InteOk m.x) (z:=zIM) hI.out zIM_ok i)
 rw [hn.out] at HR
 generalize ints2F M s (ms.map (·.x))=R at *
 generalize M.len s n=r at *
 obtain⟨s1,m⟩:=r
 simp only at HC HR hm HW HF
 go_enter Tryz.func111,Tryz.ntmps111
 go_wp2_with fail
 refine HC.out.mono ?_
 rintro e w2 ⟨rfl,hs1,hk1⟩
 have HG0:=Lh (Gr.start 60 9 ((Wk.start hS.out).call hs1 hk1))
 have HL1:=Lh (hL.out.call hk1)
 have HA:=Lh (show 0<n→∀ad,A=some ad→ad.block<w2.heap.size from fun h ad e=>(HL1.out.free h ad e).lt)
 have HU1:=Lh (show InsL M w2.heap.size (ms.map IM.row) w2 from ⟨fun m hm=>⟨((hU.out.all m hm).1.call hk1),fun h ad e=>Nat.lt_of_lt_of_le ((hU.out.all m hm).2 h ad e) hk1.size⟩⟩)
 have hk2:=Lh hk1.size
 clear hs1 hk1 HC
 go_wp2
 go_loopw [6,7,8] (fun vo vi _ wr=>∃ (k:Nat) (s':σ) (ys:List IM),k≤m∧vi = .int .i64 k∧Hid (itF M (inteF M) (fun i=>(ms.getD i zIM).x) k s1=(s',(ys.map (·.x))))∧Hid (Gr M w w2 60 9 vo k (ys.flatMap imCs) s' wr)∧Hid (ys.length=k)∧Hid (Ls M 9 A n (ms.flatMap imCs) wr)∧Hid (InsL M w2.heap.size (ms.map IM.row) wr)∧Hid (Sbs M w2.heap.size vo (ys.map IM.row) wr)) (fun _ vi _ _=>m - (intOf vi).toNat)
 case atStart=>exact⟨0,s1,[],by omega,rfl,Lh rfl,HG0,Lh rfl,HL1,HU1,Lh (Sbs.nil _ _ _ _)⟩
 case round =>
  obtain⟨k,s',ys,hk,rfl,hT,hG,hlen,hLr,hUr,hVr⟩:=hrel
  clear HG0 HL1 HU1
  have hcw:=hM.cwrite hG.out.wk.st
  have hcb:=hM.cbad hG.out.wk.st
  by_cases hlt:k<m
  · have d1:decide (k<m)=true:=decide_eq_true hlt
    cases hbad:M.bad s' with
    | true =>
      rw [hbad] at hcb
      have hb:M.bad (itF M (inteF M) (fun i=>(ms.getD i zIM).x) k s1).1=true:=by rw [hT.out];exact hbad
      have HE:=Lh ((HR.out.trans (itF_bad hb hk)).trans hT.out)
      clear hbad hb
      go_wp2
      go_ret
      rw [HE.out]
      obtain⟨A1,c1,e1,h1,h2,h3⟩:=hG.out.list
      injection e1 with e1
      subst e1
      have hsz:=hk2.out
      exact⟨A1,c1,ys,by rw [List.length_map,hlen.out];rfl,by rw [hlen.out];exact h1,⟨fun r hr=>(hVr.out.all r hr).1.mono hsz⟩,rfl,h2,h3⟩
    | false =>
      rw [hbad] at hcb
      have HT1:=Lh (itF_more hT.out hbad)
      have hfk:=itF_fit hM (one:=inteF M) (arg:=(fun i=>(ms.getD i zIM).x)) (c:=11534520) (fun s i a h=>f_inteF hM (HIG.out i) h) k 11534520 (hM.mono HF.out (by omega))
      rw [hT.out] at hfk
      have HFK:=Lh hfk
      have HOE:=Lh (HIG.out k)
      clear hbad hfk
      cases hw:M.write with
      | true =>
        rw [hw] at hcw
        have HWW:=Lh hw
        obtain rfl:=HW.out hw
        obtain⟨ad,hA,hbl,hc⟩:=hLr.out.rd.2 (by omega:0<m)
        subst hA
        have hke:k<ms.length:=by rw [hn.out];exact hlt
        have hrow:=row_cells (cells:=imCs) (size:=9) (fun _=>rfl) hc hke
        have hge:ms.getD k zIM=ms[k]:=by rw [List.getD_eq_getElem?_getD,List.getElem?_eq_getElem hke];rfl
        have hmm:=List.getElem_mem hke
        have hrw:=Lh ((hUr.out.all _ (List.mem_map.2 ⟨_,hmm,rfl⟩:IM.row ms[k] ∈ ms.map IM.row)).1)
        have hrz:=Lh (fun h=>absurd (hw.symm.trans h) (by decide):M.write=false→(ms[k]).x.obj.nodes=[])
        rw [hge] at HT1 HOE
        obtain⟨m0,hm0⟩:∃m0,ms[k]=m0:=⟨_,rfl⟩
        rw [hm0] at HT1 HOE hrow hrw hrz
        have HROW:=Lh (cells_below' hrow (by rw [block_of_add];exact hbl):∀W,Below wr.heap.size wr W→_)
        clear hw hc hbl hrow hge hm0 hmm
        obtain⟨x,hx⟩:∃x,wr.heap.size=x:=⟨_,rfl⟩
        have hbs:=Lh (hG.out.off (Nat.le_refl _))
        have haL:=Lh (hLr.out.apart (Nat.le_refl _))
        have haU:=Lh (hUr.out.apart (Nat.le_refl _))
        have haV:=Lh (hVr.out.apart (Nat.le_refl _))
        have haW:=Lh (hrw.out.apart (Nat.le_refl _))
        have hnw:=Blk.new wr 60 #[.string ⟨#[]⟩,.int .u64 0,.int .i64 0,.int .u32 0,.int .i64 0,.int .u64 0,.slice none 0 0,.int .u64 0,.int .u64 0]
        rw [hx] at hbs haL hnw haU haV haW
        have HNW:=Lh hnw
        clear hnw
        go_wp2_with (first
         | (refine wpl_store_blk rfl 60 (.tmp 8) (.tmp 25) rfl x 60 #[.string ⟨#[]⟩,.int .u64 0,.int .i64 0,.int .u32 0,.int .i64 0,.int .u64 0,.slice none 0 0,.int .u64 0,.int .u64 0] #[.string ⟨#[]⟩,.int .u64 0,.int .i64 0,.int .u32 0,.int .i64 0,.int .u64 0,.slice none 0 0,.int .u64 0,.int .u64 0] rfl rfl HNW.out rfl Tryz.sizeIn rfl ?_;intro w4 hB4 hO4
            have hX:=(Bk.new hM hG.out.wk #[.string ⟨#[]⟩,.int .u64 0,.int .i64 0,.int .u32 0,.int .i64 0,.int .u64 0,.slice none 0 0,.int .u64 0,.int .u64 0] 60)
            have hG4:=hG.out.alloc hM (.cells #[.string ⟨#[]⟩,.int .u64 0,.int .i64 0,.int .u32 0,.int .i64 0,.int .u64 0,.slice none 0 0,.int .u64 0,.int .u64 0] 60)
            rw [hx] at hX
            have X4:=Lh (hX.turn hM hG4.wk.st hO4.out hB4.out)
            have G4:=Lh (hG4.only hM hX hO4.out hbs.out)
            have L4:=Lh ((hLr.out.alloc hM hG.out.wk.st (.cells #[.string ⟨#[]⟩,.int .u64 0,.int .i64 0,.int .u32 0,.int .i64 0,.int .u64 0,.slice none 0 0,.int .u64 0,.int .u64 0] 60)).only hM hG4.wk.st hO4.out hX.free haL.out)
            have U4:=Lh ((hUr.out.alloc hM hG.out.wk.st (.cells #[.string ⟨#[]⟩,.int .u64 0,.int .i64 0,.int .u32 0,.int .i64 0,.int .u64 0,.slice none 0 0,.int .u64 0,.int .u64 0] 60)).only hM hG4.wk.st hO4.out hX.free haU.out)
            have V4:=Lh ((hVr.out.alloc hM hG.out.wk.st (.cells #[.string ⟨#[]⟩,.int .u64 0,.int .i64 0,.int .u32 0,.int .i64 0,.int .u64 0,.slice none 0 0,.int .u64 0,.int .u64 0] 60)).only hM hG4.wk.st hO4.out hX.free haV.out)
            have W4:=Lh ((hrw.out.alloc hM hG.out.wk.st (.cells #[.string ⟨#[]⟩,.int .u64 0,.int .i64 0,.int .u32 0,.int .i64 0,.int .u64 0,.slice none 0 0,.int .u64 0,.int .u64 0] 60)).only hM hG4.wk.st hO4.out hX.free haW.out)
            have pw:=hM.cwrite G4.out.wk.st
            rw [HWW.out] at pw
            have HRW:=Lh (HROW.out w4 (((Below.refl _ _).alloc (Nat.le_refl _) _).trans (hO4.out.below (by rw [hx];exact Nat.le_refl _))))
            clear hX hG4 hB4 hO4)
         | (refine wpl_load_at rfl 60 (.tmp 32) rfl (ad.add (k*9)) (#[.string (strOf m0.x.obj.key),.int .u64 (m0.x.obj.version:Int),.int .i64 m0.x.obj.size,.int .u32 (m0.x.obj.sum:Int),.int .i64 m0.x.obj.group,.int .u64 (m0.x.obj.epoch:Int),.slice m0.A m0.x.obj.nodes.length m0.c,.int .u64 (m0.x.client:Int),.int .u64 (m0.x.seq:Int)]:Array Value).toList _ rfl HRW.out Tryz.underlying60 rfl Tryz.sizeIn ?_)
         | (refine wpl_store_blk rfl 60 (.tmp 8) (.tmp 33) rfl x 60 _ #[.string (strOf m0.x.obj.key),.int .u64 (m0.x.obj.version:Int),.int .i64 m0.x.obj.size,.int .u32 (m0.x.obj.sum:Int),.int .i64 m0.x.obj.group,.int .u64 (m0.x.obj.epoch:Int),.slice m0.A m0.x.obj.nodes.length m0.c,.int .u64 (m0.x.client:Int),.int .u64 (m0.x.seq:Int)] rfl rfl X4.out.blk rfl Tryz.sizeIn rfl ?_;intro w5 hB5 hO5
            have G:=Lh (G4.out.only hM X4.out hO5.out hbs.out)
            have X:=Lh (X4.out.turn hM G4.out.wk.st hO5.out hB5.out)
            have L:=Lh (L4.out.only hM G4.out.wk.st hO5.out X4.out.free haL.out)
            have U:=Lh (U4.out.only hM G4.out.wk.st hO5.out X4.out.free haU.out)
            have V:=Lh (V4.out.only hM G4.out.wk.st hO5.out X4.out.free haV.out)
            have RW:=Lh (W4.out.only hM G4.out.wk.st hO5.out X4.out.free haW.out)
            clear pw HWW hB5 hO5 G4 X4 L4 HRW U4 V4 W4
            have cx0:=X.out.blk.cell 0
            have cx1:=X.out.blk.cell 1
            have cx2:=X.out.blk.cell 2
            have cx3:=X.out.blk.cell 3
            have cx4:=X.out.blk.cell 4
            have cx5:=X.out.blk.cell 5
            have cx6:=X.out.blk.cell 6))
        have RZ:=hrz
        have HR3:=Lh (show inteF M s' m0.x=bnd (objF M s' m0.x.obj) fun s1 y1=>bnd (M.u64 s1 m0.x.client) fun s2 y2=>bnd (M.u64 s2 m0.x.seq) fun s3 y3=>(s3,⟨y1,y2,y3⟩) from rfl)
        have HF:=HFK
        rw [HR3.out] at HT1
        have HC:=Lh (pf_object M hM s' m0.A m0.c m0.x.obj _ (Lh G.out.wk.st) RW HOE.out.obj (Lh RZ.out) (Lh (hM.mono HF.out (by omega))))
        have HF:=Lh (f_object hM (x:=m0.x.obj) HOE.out.obj (a:=20) (hM.mono HF.out (by omega)))
        generalize objF M s' m0.x.obj=r at *
        obtain⟨s1,y1⟩:=r
        rw [bnd_mk] at HT1
        simp only at HC HF
        refine HC.out.mono ?_
        rintro e w6 ⟨A7,c7,rfl,l7,hs,hk⟩
        clear HC
        unfold objCs
        clear RW
        have HXN:=Lh X.out.free.lt
        have NA:=Lh (show 0<y1.nodes.length→∀ad,A7=some ad→ad.block≠x from fun h0 ad e e2=>by have:=l7.lo h0 ad e;have:=HXN.out;omega)
        have N:=Lh (And.intro (l7.mono G.out.hi) (G.out.off_new l7.lo))
        have L:=Lh (L.out.call hk)
        have U:=Lh (U.out.call hk)
        have V:=Lh (V.out.call hk)
        have X:=Lh (X.out.call hk)
        have G:=Lh (G.out.call hs hk)
        clear hs hk l7
        have cx0:=X.out.blk.cell 0
        have cx1:=X.out.blk.cell 1
        have cx2:=X.out.blk.cell 2
        have cx3:=X.out.blk.cell 3
        have cx4:=X.out.blk.cell 4
        have cx5:=X.out.blk.cell 5
        have cx6:=X.out.blk.cell 6
        have cx7:=X.out.blk.cell 7
        have fx:=X.out.blk.frozen
        go_wp2_with fail
        obtain⟨v1,ew⟩:∃v1,((((((w6.setCell ⟨x,0,none⟩ (.string (strOf y1.key))).setCell ⟨x,1,none⟩ (.int .u64 (y1.version:Int))).setCell ⟨x,2,none⟩ (.int .i64 y1.size)).setCell ⟨x,3,none⟩ (.int .u32 (y1.sum:Int))).setCell ⟨x,4,none⟩ (.int .i64 y1.group)).setCell ⟨x,5,none⟩ (.int .u64 (y1.epoch:Int))).setCell ⟨x,6,none⟩ (.slice A7 y1.nodes.length c7)=v1:=⟨_,rfl⟩
        have hO:=(((((((Only.set_ w6 x 0 (.string (strOf y1.key))).trans (Only.set_ (w6.setCell ⟨x,0,none⟩ (.string (strOf y1.key))) x 1 (.int .u64 (y1.version:Int)))).trans (Only.set_ ((w6.setCell ⟨x,0,none⟩ (.string (strOf y1.key))).setCell ⟨x,1,none⟩ (.int .u64 (y1.version:Int))) x 2 (.int .i64 y1.size))).trans (Only.set_ (((w6.setCell ⟨x,0,none⟩ (.string (strOf y1.key))).setCell ⟨x,1,none⟩ (.int .u64 (y1.version:Int))).setCell ⟨x,2,none⟩ (.int .i64 y1.size)) x 3 (.int .u32 (y1.sum:Int)))).trans (Only.set_ ((((w6.setCell ⟨x,0,none⟩ (.string (strOf y1.key))).setCell ⟨x,1,none⟩ (.int .u64 (y1.version:Int))).setCell ⟨x,2,none⟩ (.int .i64 y1.size)).setCell ⟨x,3,none⟩ (.int .u32 (y1.sum:Int))) x 4 (.int .i64 y1.group))).trans (Only.set_ (((((w6.setCell ⟨x,0,none⟩ (.string (strOf y1.key))).setCell ⟨x,1,none⟩ (.int .u64 (y1.version:Int))).setCell ⟨x,2,none⟩ (.int .i64 y1.size)).setCell ⟨x,3,none⟩ (.int .u32 (y1.sum:Int))).setCell ⟨x,4,none⟩ (.int .i64 y1.group)) x 5 (.int .u64 (y1.epoch:Int)))).trans (Only.set_ ((((((w6.setCell ⟨x,0,none⟩ (.string (strOf y1.key))).setCell ⟨x,1,none⟩ (.int .u64 (y1.version:Int))).setCell ⟨x,2,none⟩ (.int .i64 y1.size)).setCell ⟨x,3,none⟩ (.int .u32 (y1.sum:Int))).setCell ⟨x,4,none⟩ (.int .i64 y1.group)).setCell ⟨x,5,none⟩ (.int .u64 (y1.epoch:Int))) x 6 (.slice A7 y1.nodes.length c7)))
        have hB:Blk (((((((w6.setCell ⟨x,0,none⟩ (.string (strOf y1.key))).setCell ⟨x,1,none⟩ (.int .u64 (y1.version:Int))).setCell ⟨x,2,none⟩ (.int .i64 y1.size)).setCell ⟨x,3,none⟩ (.int .u32 (y1.sum:Int))).setCell ⟨x,4,none⟩ (.int .i64 y1.group)).setCell ⟨x,5,none⟩ (.int .u64 (y1.epoch:Int))).setCell ⟨x,6,none⟩ (.slice A7 y1.nodes.length c7)) x 60 #[.string (strOf y1.key),.int .u64 (y1.version:Int),.int .i64 y1.size,.int .u32 (y1.sum:Int),.int .i64 y1.group,.int .u64 (y1.epoch:Int),.slice A7 y1.nodes.length c7,.int .u64 (m0.x.client:Int),.int .u64 (m0.x.seq:Int)]:=by have:=(((((((X.out.blk.set_ 0 (.string (strOf y1.key))).set_ 1 (.int .u64 (y1.version:Int))).set_ 2 (.int .i64 y1.size)).set_ 3 (.int .u32 (y1.sum:Int))).set_ 4 (.int .i64 y1.group)).set_ 5 (.int .u64 (y1.epoch:Int))).set_ 6 (.slice A7 y1.nodes.length c7));simpa using this
        rw [ew] at hO hB ⊢
        have L:=Lh (L.out.only hM G.out.wk.st hO X.out.free haL.out)
        have U:=Lh (U.out.only hM G.out.wk.st hO X.out.free haU.out)
        have V:=Lh (V.out.only hM G.out.wk.st hO X.out.free haV.out)
        have N:=Lh (And.intro (⟨N.out.1.ls.only hM G.out.wk.st hO X.out.free (fun h0 ad e=>NA.out h0 ad e),N.out.1.lo,N.out.1.kc,N.out.1.cm⟩:Lx M w2.heap.size 1 A7 c7 y1.nodes.length (y1.nodes.map iv) _) N.out.2)
        have X1:=Lh (X.out.turn hM G.out.wk.st hO hB)
        have G:=Lh (G.out.only hM X.out hO hbs.out)
        have X:=X1
        clear X1 ew hO hB fx cx0 cx1 cx2 cx3 cx4 cx5 cx6 cx7
        have HC:=Lh (hM.c_u64 s1 m0.x.client _ (Lh G.out.wk.st) HOE.out.client (hM.mono HF.out (by omega)))
        have HF:=Lh (hM.f_u64 (s:=s1) (x:=m0.x.client) (a:=10) (hM.mono HF.out (by omega)) HOE.out.client)
        generalize M.u64 s1 m0.x.client=r at *
        obtain⟨s2,y2⟩:=r
        rw [bnd_mk] at HT1
        simp only at HC HF
        refine HC.out.mono ?_
        rintro e w7 ⟨rfl,hs,hk⟩
        clear HC
        have L:=Lh (L.out.call hk)
        have U:=Lh (U.out.call hk)
        have V:=Lh (V.out.call hk)
        have N:=Lh (And.intro (N.out.1.call hk) N.out.2)
        have X:=Lh (X.out.call hk)
        have G:=Lh (G.out.call hs hk)
        clear hs hk
        have cx7:=X.out.blk.cell 7
        have cx8:=X.out.blk.cell 8
        have fx:=X.out.blk.frozen
        go_wp2_with fail
        obtain⟨v2,ew⟩:∃v2,w7.setCell ⟨x,7,none⟩ (.int .u64 (y2:Int))=v2:=⟨_,rfl⟩
        have hO:=(Only.set_ w7 x 7 (.int .u64 (y2:Int)))
        have hB:Blk (w7.setCell ⟨x,7,none⟩ (.int .u64 (y2:Int))) x 60 #[.string (strOf y1.key),.int .u64 (y1.version:Int),.int .i64 y1.size,.int .u32 (y1.sum:Int),.int .i64 y1.group,.int .u64 (y1.epoch:Int),.slice A7 y1.nodes.length c7,.int .u64 (y2:Int),.int .u64 (m0.x.seq:Int)]:=by have:=(X.out.blk.set_ 7 (.int .u64 (y2:Int)));simpa using this
        rw [ew] at hO hB ⊢
        have L:=Lh (L.out.only hM G.out.wk.st hO X.out.free haL.out)
        have U:=Lh (U.out.only hM G.out.wk.st hO X.out.free haU.out)
        have V:=Lh (V.out.only hM G.out.wk.st hO X.out.free haV.out)
        have N:=Lh (And.intro (⟨N.out.1.ls.only hM G.out.wk.st hO X.out.free (fun h0 ad e=>NA.out h0 ad e),N.out.1.lo,N.out.1.kc,N.out.1.cm⟩:Lx M w2.heap.size 1 A7 c7 y1.nodes.length (y1.nodes.map iv) _) N.out.2)
        have X1:=Lh (X.out.turn hM G.out.wk.st hO hB)
        have G:=Lh (G.out.only hM X.out hO hbs.out)
        have X:=X1
        clear X1 ew hO hB fx cx7 cx8
        have HC:=Lh (hM.c_u64 s2 m0.x.seq _ (Lh G.out.wk.st) HOE.out.seq (hM.mono HF.out (by omega)))
        have HF:=Lh (hM.f_u64 (s:=s2) (x:=m0.x.seq) (a:=0) (hM.mono HF.out (by omega)) HOE.out.seq)
        generalize M.u64 s2 m0.x.seq=r at *
        obtain⟨s3,y3⟩:=r
        rw [bnd_mk] at HT1
        simp only at HC HF
        refine HC.out.mono ?_
        rintro e w8 ⟨rfl,hs,hk⟩
        clear HC
        have L:=Lh (L.out.call hk)
        have U:=Lh (U.out.call hk)
        have V:=Lh (V.out.call hk)
        have N:=Lh (And.intro (N.out.1.call hk) N.out.2)
        have X:=Lh (X.out.call hk)
        have G:=Lh (G.out.call hs hk)
        clear hs hk
        have cx8:=X.out.blk.cell 8
        have fx:=X.out.blk.frozen
        obtain⟨v3,ew⟩:∃v3,w8.setCell ⟨x,8,none⟩ (.int .u64 (y3:Int))=v3:=⟨_,rfl⟩
        have hO:=(Only.set_ w8 x 8 (.int .u64 (y3:Int)))
        have hB:Blk (w8.setCell ⟨x,8,none⟩ (.int .u64 (y3:Int))) x 60 #[.string (strOf y1.key),.int .u64 (y1.version:Int),.int .i64 y1.size,.int .u32 (y1.sum:Int),.int .i64 y1.group,.int .u64 (y1.epoch:Int),.slice A7 y1.nodes.length c7,.int .u64 (y2:Int),.int .u64 (y3:Int)]:=by have:=(X.out.blk.set_ 8 (.int .u64 (y3:Int)));simpa using this
        rw [ew] at hO hB
        have L:=Lh (L.out.only hM G.out.wk.st hO X.out.free haL.out)
        have U:=Lh (U.out.only hM G.out.wk.st hO X.out.free haU.out)
        have V:=Lh (V.out.only hM G.out.wk.st hO X.out.free haV.out)
        have N:=Lh (And.intro (⟨N.out.1.ls.only hM G.out.wk.st hO X.out.free (fun h0 ad e=>NA.out h0 ad e),N.out.1.lo,N.out.1.kc,N.out.1.cm⟩:Lx M w2.heap.size 1 A7 c7 y1.nodes.length (y1.nodes.map iv) _) N.out.2)
        have X1:=Lh (X.out.turn hM G.out.wk.st hO hB)
        have G:=Lh (G.out.only hM X.out hO hbs.out)
        have X:=X1
        clear X1 hO hB
        go_wp2_with (first
         | (refine wpl_load_blk rfl 60 (.tmp 8) rfl x 60 _ _ rfl X.out.blk Tryz.underlying60 rfl Tryz.sizeIn ?_)
         | (at_builtin
            refine wpl_gr3 hM rfl _ _ 30 _ 96 Tryz.underlying30 Tryz.infoIntent rfl (by decide) (by decide) rfl G.out (by omega) [.string (strOf y1.key),.int .u64 (y1.version:Int),.int .i64 y1.size,.int .u32 (y1.sum:Int),.int .i64 y1.group,.int .u64 (y1.epoch:Int),.slice A7 y1.nodes.length c7,.int .u64 (y2:Int),.int .u64 (y3:Int)] rfl (by intro u hu;simp only [List.mem_cons,List.not_mem_nil,or_false] at hu;rcases hu with rfl | rfl | rfl | rfl | rfl | rfl | rfl | rfl | rfl <;> rfl) rfl rfl ?_
            intro v10 w10 hG10 hV10))
        refine⟨⟨k+1,s3,ys ++ [⟨⟨y1,y2,y3⟩,A7,c7⟩],by omega,by go_num,Lh (by rw [List.map_append];exact HT1.out),Lh (by rw [List.flatMap_append];exact hG10.out.1),Lh (by rw [List.length_append,hlen.out];rfl),Lh (Ls.more hM (G.out.alloc hM _) hG10.out.2 (L.out.alloc hM G.out.wk.st _) HA.out),Lh (InsL.more hM (G.out.alloc hM _) hG10.out.2 (U.out.alloc hM G.out.wk.st _)),Lh (by rw [List.map_append];exact Sbs.more hM (G.out.alloc hM _) hG10.out.2 hV10.out ((V.out.add (r:=IM.row ⟨⟨y1,y2,y3⟩,A7,c7⟩) N.out).alloc hM G.out.wk.st _))⟩,by simp [intOf];omega⟩
      | false =>
        rw [hw] at hcw
        have HWW:=Lh hw
        have hge:ms.getD k zIM=zIM:=by rw [hz.out hw];rfl
        rw [hge] at HT1 HOE
        obtain⟨m0,hm0⟩:∃m0,zIM=m0:=⟨_,rfl⟩
        have hrw:=Lh (show Ls M 1 m0.A m0.x.obj.nodes.length (m0.x.obj.nodes.map iv) wr from by rw [← hm0];exact⟨Reads.none_,fun h=>absurd h (by decide)⟩)
        have hrz:=Lh (show M.write=false→m0.x.obj.nodes=[] from fun _=>by rw [← hm0];rfl)
        rw [hm0] at HOE
        have HT1:=(show Hid (itF M (inteF M) (fun i=>(ms.getD i zIM).x) (k+1) s1=((inteF M s' m0.x).1,(ys.map (·.x)) ++ [(inteF M s' m0.x).2])) from by rw [← hm0];exact HT1)
        clear hw hge
        obtain⟨x,hx⟩:∃x,wr.heap.size=x:=⟨_,rfl⟩
        have hbs:=Lh (hG.out.off (Nat.le_refl _))
        have haL:=Lh (hLr.out.apart (Nat.le_refl _))
        have haU:=Lh (hUr.out.apart (Nat.le_refl _))
        have haV:=Lh (hVr.out.apart (Nat.le_refl _))
        have haW:=Lh (hrw.out.apart (Nat.le_refl _))
        have hnw:=Blk.new wr 60 #[.string ⟨#[]⟩,.int .u64 0,.int .i64 0,.int .u32 0,.int .i64 0,.int .u64 0,.slice none 0 0,.int .u64 0,.int .u64 0]
        rw [hx] at hbs haL hnw haU haV haW
        have HNW:=Lh hnw
        clear hnw
        go_wp2_with (first
         | (refine wpl_store_blk rfl 60 (.tmp 8) (.tmp 25) rfl x 60 #[.string ⟨#[]⟩,.int .u64 0,.int .i64 0,.int .u32 0,.int .i64 0,.int .u64 0,.slice none 0 0,.int .u64 0,.int .u64 0] #[.string ⟨#[]⟩,.int .u64 0,.int .i64 0,.int .u32 0,.int .i64 0,.int .u64 0,.slice none 0 0,.int .u64 0,.int .u64 0] rfl rfl HNW.out rfl Tryz.sizeIn rfl ?_;intro w4 hB4 hO4
            have hX:=(Bk.new hM hG.out.wk #[.string ⟨#[]⟩,.int .u64 0,.int .i64 0,.int .u32 0,.int .i64 0,.int .u64 0,.slice none 0 0,.int .u64 0,.int .u64 0] 60)
            have hG4:=hG.out.alloc hM (.cells #[.string ⟨#[]⟩,.int .u64 0,.int .i64 0,.int .u32 0,.int .i64 0,.int .u64 0,.slice none 0 0,.int .u64 0,.int .u64 0] 60)
            rw [hx] at hX
            have X4:=Lh (hX.turn hM hG4.wk.st hO4.out hB4.out)
            have G4:=Lh (hG4.only hM hX hO4.out hbs.out)
            have L4:=Lh ((hLr.out.alloc hM hG.out.wk.st (.cells #[.string ⟨#[]⟩,.int .u64 0,.int .i64 0,.int .u32 0,.int .i64 0,.int .u64 0,.slice none 0 0,.int .u64 0,.int .u64 0] 60)).only hM hG4.wk.st hO4.out hX.free haL.out)
            have U4:=Lh ((hUr.out.alloc hM hG.out.wk.st (.cells #[.string ⟨#[]⟩,.int .u64 0,.int .i64 0,.int .u32 0,.int .i64 0,.int .u64 0,.slice none 0 0,.int .u64 0,.int .u64 0] 60)).only hM hG4.wk.st hO4.out hX.free haU.out)
            have V4:=Lh ((hVr.out.alloc hM hG.out.wk.st (.cells #[.string ⟨#[]⟩,.int .u64 0,.int .i64 0,.int .u32 0,.int .i64 0,.int .u64 0,.slice none 0 0,.int .u64 0,.int .u64 0] 60)).only hM hG4.wk.st hO4.out hX.free haV.out)
            have W4:=Lh ((hrw.out.alloc hM hG.out.wk.st (.cells #[.string ⟨#[]⟩,.int .u64 0,.int .i64 0,.int .u32 0,.int .i64 0,.int .u64 0,.slice none 0 0,.int .u64 0,.int .u64 0] 60)).only hM hG4.wk.st hO4.out hX.free haW.out)
            have pw:=hM.cwrite G4.out.wk.st
            rw [HWW.out] at pw
            have X:=Lh (show Bk M w x 60 #[.string (strOf m0.x.obj.key),.int .u64 (m0.x.obj.version:Int),.int .i64 m0.x.obj.size,.int .u32 (m0.x.obj.sum:Int),.int .i64 m0.x.obj.group,.int .u64 (m0.x.obj.epoch:Int),.slice m0.A m0.x.obj.nodes.length m0.c,.int .u64 (m0.x.client:Int),.int .u64 (m0.x.seq:Int)] w4 from (by rw [← hm0];exact X4.out))
            have G:=G4
            have L:=L4
            have U:=U4
            have V:=V4
            have RW:=W4
            clear hX hG4 hB4 hO4 G4 L4 X4 hm0 U4 V4 W4
            have cx0:=X.out.blk.cell 0
            have cx1:=X.out.blk.cell 1
            have cx2:=X.out.blk.cell 2
            have cx3:=X.out.blk.cell 3
            have cx4:=X.out.blk.cell 4
            have cx5:=X.out.blk.cell 5
            have cx6:=X.out.blk.cell 6))
        have RZ:=hrz
        have HR3:=Lh (show inteF M s' m0.x=bnd (objF M s' m0.x.obj) fun s1 y1=>bnd (M.u64 s1 m0.x.client) fun s2 y2=>bnd (M.u64 s2 m0.x.seq) fun s3 y3=>(s3,⟨y1,y2,y3⟩) from rfl)
        have HF:=HFK
        rw [HR3.out] at HT1
        have HC:=Lh (pf_object M hM s' m0.A m0.c m0.x.obj _ (Lh G.out.wk.st) RW HOE.out.obj (Lh RZ.out) (Lh (hM.mono HF.out (by omega))))
        have HF:=Lh (f_object hM (x:=m0.x.obj) HOE.out.obj (a:=20) (hM.mono HF.out (by omega)))
        generalize objF M s' m0.x.obj=r at *
        obtain⟨s1,y1⟩:=r
        rw [bnd_mk] at HT1
        simp only at HC HF
        refine HC.out.mono ?_
        rintro e w6 ⟨A7,c7,rfl,l7,hs,hk⟩
        clear HC
        unfold objCs
        clear RW
        have HXN:=Lh X.out.free.lt
        have NA:=Lh (show 0<y1.nodes.length→∀ad,A7=some ad→ad.block≠x from fun h0 ad e e2=>by have:=l7.lo h0 ad e;have:=HXN.out;omega)
        have N:=Lh (And.intro (l7.mono G.out.hi) (G.out.off_new l7.lo))
        have L:=Lh (L.out.call hk)
        have U:=Lh (U.out.call hk)
        have V:=Lh (V.out.call hk)
        have X:=Lh (X.out.call hk)
        have G:=Lh (G.out.call hs hk)
        clear hs hk l7
        have cx0:=X.out.blk.cell 0
        have cx1:=X.out.blk.cell 1
        have cx2:=X.out.blk.cell 2
        have cx3:=X.out.blk.cell 3
        have cx4:=X.out.blk.cell 4
        have cx5:=X.out.blk.cell 5
        have cx6:=X.out.blk.cell 6
        have cx7:=X.out.blk.cell 7
        have fx:=X.out.blk.frozen
        go_wp2_with fail
        obtain⟨v1,ew⟩:∃v1,((((((w6.setCell ⟨x,0,none⟩ (.string (strOf y1.key))).setCell ⟨x,1,none⟩ (.int .u64 (y1.version:Int))).setCell ⟨x,2,none⟩ (.int .i64 y1.size)).setCell ⟨x,3,none⟩ (.int .u32 (y1.sum:Int))).setCell ⟨x,4,none⟩ (.int .i64 y1.group)).setCell ⟨x,5,none⟩ (.int .u64 (y1.epoch:Int))).setCell ⟨x,6,none⟩ (.slice A7 y1.nodes.length c7)=v1:=⟨_,rfl⟩
        have hO:=(((((((Only.set_ w6 x 0 (.string (strOf y1.key))).trans (Only.set_ (w6.setCell ⟨x,0,none⟩ (.string (strOf y1.key))) x 1 (.int .u64 (y1.version:Int)))).trans (Only.set_ ((w6.setCell ⟨x,0,none⟩ (.string (strOf y1.key))).setCell ⟨x,1,none⟩ (.int .u64 (y1.version:Int))) x 2 (.int .i64 y1.size))).trans (Only.set_ (((w6.setCell ⟨x,0,none⟩ (.string (strOf y1.key))).setCell ⟨x,1,none⟩ (.int .u64 (y1.version:Int))).setCell ⟨x,2,none⟩ (.int .i64 y1.size)) x 3 (.int .u32 (y1.sum:Int)))).trans (Only.set_ ((((w6.setCell ⟨x,0,none⟩ (.string (strOf y1.key))).setCell ⟨x,1,none⟩ (.int .u64 (y1.version:Int))).setCell ⟨x,2,none⟩ (.int .i64 y1.size)).setCell ⟨x,3,none⟩ (.int .u32 (y1.sum:Int))) x 4 (.int .i64 y1.group))).trans (Only.set_ (((((w6.setCell ⟨x,0,none⟩ (.string (strOf y1.key))).setCell ⟨x,1,none⟩ (.int .u64 (y1.version:Int))).setCell ⟨x,2,none⟩ (.int .i64 y1.size)).setCell ⟨x,3,none⟩ (.int .u32 (y1.sum:Int))).setCell ⟨x,4,none⟩ (.int .i64 y1.group)) x 5 (.int .u64 (y1.epoch:Int)))).trans (Only.set_ ((((((w6.setCell ⟨x,0,none⟩ (.string (strOf y1.key))).setCell ⟨x,1,none⟩ (.int .u64 (y1.version:Int))).setCell ⟨x,2,none⟩ (.int .i64 y1.size)).setCell ⟨x,3,none⟩ (.int .u32 (y1.sum:Int))).setCell ⟨x,4,none⟩ (.int .i64 y1.group)).setCell ⟨x,5,none⟩ (.int .u64 (y1.epoch:Int))) x 6 (.slice A7 y1.nodes.length c7)))
        have hB:Blk (((((((w6.setCell ⟨x,0,none⟩ (.string (strOf y1.key))).setCell ⟨x,1,none⟩ (.int .u64 (y1.version:Int))).setCell ⟨x,2,none⟩ (.int .i64 y1.size)).setCell ⟨x,3,none⟩ (.int .u32 (y1.sum:Int))).setCell ⟨x,4,none⟩ (.int .i64 y1.group)).setCell ⟨x,5,none⟩ (.int .u64 (y1.epoch:Int))).setCell ⟨x,6,none⟩ (.slice A7 y1.nodes.length c7)) x 60 #[.string (strOf y1.key),.int .u64 (y1.version:Int),.int .i64 y1.size,.int .u32 (y1.sum:Int),.int .i64 y1.group,.int .u64 (y1.epoch:Int),.slice A7 y1.nodes.length c7,.int .u64 (m0.x.client:Int),.int .u64 (m0.x.seq:Int)]:=by have:=(((((((X.out.blk.set_ 0 (.string (strOf y1.key))).set_ 1 (.int .u64 (y1.version:Int))).set_ 2 (.int .i64 y1.size)).set_ 3 (.int .u32 (y1.sum:Int))).set_ 4 (.int .i64 y1.group)).set_ 5 (.int .u64 (y1.epoch:Int))).set_ 6 (.slice A7 y1.nodes.length c7));simpa using this
        rw [ew] at hO hB ⊢
        have L:=Lh (L.out.only hM G.out.wk.st hO X.out.free haL.out)
        have U:=Lh (U.out.only hM G.out.wk.st hO X.out.free haU.out)
        have V:=Lh (V.out.only hM G.out.wk.st hO X.out.free haV.out)
        have N:=Lh (And.intro (⟨N.out.1.ls.only hM G.out.wk.st hO X.out.free (fun h0 ad e=>NA.out h0 ad e),N.out.1.lo,N.out.1.kc,N.out.1.cm⟩:Lx M w2.heap.size 1 A7 c7 y1.nodes.length (y1.nodes.map iv) _) N.out.2)
        have X1:=Lh (X.out.turn hM G.out.wk.st hO hB)
        have G:=Lh (G.out.only hM X.out hO hbs.out)
        have X:=X1
        clear X1 ew hO hB fx cx0 cx1 cx2 cx3 cx4 cx5 cx6 cx7
        have HC:=Lh (hM.c_u64 s1 m0.x.client _ (Lh G.out.wk.st) HOE.out.client (hM.mono HF.out (by omega)))
        have HF:=Lh (hM.f_u64 (s:=s1) (x:=m0.x.client) (a:=10) (hM.mono HF.out (by omega)) HOE.out.client)
        generalize M.u64 s1 m0.x.client=r at *
        obtain⟨s2,y2⟩:=r
        rw [bnd_mk] at HT1
        simp only at HC HF
        refine HC.out.mono ?_
        rintro e w7 ⟨rfl,hs,hk⟩
        clear HC
        have L:=Lh (L.out.call hk)
        have U:=Lh (U.out.call hk)
        have V:=Lh (V.out.call hk)
        have N:=Lh (And.intro (N.out.1.call hk) N.out.2)
        have X:=Lh (X.out.call hk)
        have G:=Lh (G.out.call hs hk)
        clear hs hk
        have cx7:=X.out.blk.cell 7
        have cx8:=X.out.blk.cell 8
        have fx:=X.out.blk.frozen
        go_wp2_with fail
        obtain⟨v2,ew⟩:∃v2,w7.setCell ⟨x,7,none⟩ (.int .u64 (y2:Int))=v2:=⟨_,rfl⟩
        have hO:=(Only.set_ w7 x 7 (.int .u64 (y2:Int)))
        have hB:Blk (w7.setCell ⟨x,7,none⟩ (.int .u64 (y2:Int))) x 60 #[.string (strOf y1.key),.int .u64 (y1.version:Int),.int .i64 y1.size,.int .u32 (y1.sum:Int),.int .i64 y1.group,.int .u64 (y1.epoch:Int),.slice A7 y1.nodes.length c7,.int .u64 (y2:Int),.int .u64 (m0.x.seq:Int)]:=by have:=(X.out.blk.set_ 7 (.int .u64 (y2:Int)));simpa using this
        rw [ew] at hO hB ⊢
        have L:=Lh (L.out.only hM G.out.wk.st hO X.out.free haL.out)
        have U:=Lh (U.out.only hM G.out.wk.st hO X.out.free haU.out)
        have V:=Lh (V.out.only hM G.out.wk.st hO X.out.free haV.out)
        have N:=Lh (And.intro (⟨N.out.1.ls.only hM G.out.wk.st hO X.out.free (fun h0 ad e=>NA.out h0 ad e),N.out.1.lo,N.out.1.kc,N.out.1.cm⟩:Lx M w2.heap.size 1 A7 c7 y1.nodes.length (y1.nodes.map iv) _) N.out.2)
        have X1:=Lh (X.out.turn hM G.out.wk.st hO hB)
        have G:=Lh (G.out.only hM X.out hO hbs.out)
        have X:=X1
        clear X1 ew hO hB fx cx7 cx8
        have HC:=Lh (hM.c_u64 s2 m0.x.seq _ (Lh G.out.wk.st) HOE.out.seq (hM.mono HF.out (by omega)))
        have HF:=Lh (hM.f_u64 (s:=s2) (x:=m0.x.seq) (a:=0) (hM.mono HF.out (by omega)) HOE.out.seq)
        generalize M.u64 s2 m0.x.seq=r at *
        obtain⟨s3,y3⟩:=r
        rw [bnd_mk] at HT1
        simp only at HC HF
        refine HC.out.mono ?_
        rintro e w8 ⟨rfl,hs,hk⟩
        clear HC
        have L:=Lh (L.out.call hk)
        have U:=Lh (U.out.call hk)
        have V:=Lh (V.out.call hk)
        have N:=Lh (And.intro (N.out.1.call hk) N.out.2)
        have X:=Lh (X.out.call hk)
        have G:=Lh (G.out.call hs hk)
        clear hs hk
        have cx8:=X.out.blk.cell 8
        have fx:=X.out.blk.frozen
        obtain⟨v3,ew⟩:∃v3,w8.setCell ⟨x,8,none⟩ (.int .u64 (y3:Int))=v3:=⟨_,rfl⟩
        have hO:=(Only.set_ w8 x 8 (.int .u64 (y3:Int)))
        have hB:Blk (w8.setCell ⟨x,8,none⟩ (.int .u64 (y3:Int))) x 60 #[.string (strOf y1.key),.int .u64 (y1.version:Int),.int .i64 y1.size,.int .u32 (y1.sum:Int),.int .i64 y1.group,.int .u64 (y1.epoch:Int),.slice A7 y1.nodes.length c7,.int .u64 (y2:Int),.int .u64 (y3:Int)]:=by have:=(X.out.blk.set_ 8 (.int .u64 (y3:Int)));simpa using this
        rw [ew] at hO hB
        have L:=Lh (L.out.only hM G.out.wk.st hO X.out.free haL.out)
        have U:=Lh (U.out.only hM G.out.wk.st hO X.out.free haU.out)
        have V:=Lh (V.out.only hM G.out.wk.st hO X.out.free haV.out)
        have N:=Lh (And.intro (⟨N.out.1.ls.only hM G.out.wk.st hO X.out.free (fun h0 ad e=>NA.out h0 ad e),N.out.1.lo,N.out.1.kc,N.out.1.cm⟩:Lx M w2.heap.size 1 A7 c7 y1.nodes.length (y1.nodes.map iv) _) N.out.2)
        have X1:=Lh (X.out.turn hM G.out.wk.st hO hB)
        have G:=Lh (G.out.only hM X.out hO hbs.out)
        have X:=X1
        clear X1 hO hB
        go_wp2_with (first
         | (refine wpl_load_blk rfl 60 (.tmp 8) rfl x 60 _ _ rfl X.out.blk Tryz.underlying60 rfl Tryz.sizeIn ?_)
         | (at_builtin
            refine wpl_gr3 hM rfl _ _ 30 _ 96 Tryz.underlying30 Tryz.infoIntent rfl (by decide) (by decide) rfl G.out (by omega) [.string (strOf y1.key),.int .u64 (y1.version:Int),.int .i64 y1.size,.int .u32 (y1.sum:Int),.int .i64 y1.group,.int .u64 (y1.epoch:Int),.slice A7 y1.nodes.length c7,.int .u64 (y2:Int),.int .u64 (y3:Int)] rfl (by intro u hu;simp only [List.mem_cons,List.not_mem_nil,or_false] at hu;rcases hu with rfl | rfl | rfl | rfl | rfl | rfl | rfl | rfl | rfl <;> rfl) rfl rfl ?_
            intro v10 w10 hG10 hV10))
        refine⟨⟨k+1,s3,ys ++ [⟨⟨y1,y2,y3⟩,A7,c7⟩],by omega,by go_num,Lh (by rw [List.map_append];exact HT1.out),Lh (by rw [List.flatMap_append];exact hG10.out.1),Lh (by rw [List.length_append,hlen.out];rfl),Lh (Ls.more hM (G.out.alloc hM _) hG10.out.2 (L.out.alloc hM G.out.wk.st _) HA.out),Lh (InsL.more hM (G.out.alloc hM _) hG10.out.2 (U.out.alloc hM G.out.wk.st _)),Lh (by rw [List.map_append];exact Sbs.more hM (G.out.alloc hM _) hG10.out.2 hV10.out ((V.out.add (r:=IM.row ⟨⟨y1,y2,y3⟩,A7,c7⟩) N.out).alloc hM G.out.wk.st _))⟩,by simp [intOf];omega⟩
  · obtain rfl:k=m:=by omega
    have HE:=Lh (HR.out.trans hT.out)
    go_wp2
    go_ret
    rw [HE.out]
    obtain⟨A1,c1,e1,h1,h2,h3⟩:=hG.out.list
    injection e1 with e1
    subst e1
    have hsz:=hk2.out
    exact⟨A1,c1,ys,by rw [List.length_map,hlen.out];rfl,by rw [hlen.out];exact h1,⟨fun r hr=>(hVr.out.all r hr).1.mono hsz⟩,rfl,h2,h3⟩
end
end Go.Proofs.YtdoneomahlfkbaaGreat
