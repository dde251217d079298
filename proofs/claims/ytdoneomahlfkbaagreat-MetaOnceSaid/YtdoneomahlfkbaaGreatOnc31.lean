/- THE REFERENCE'S P, READING OR WRITING: rows of sessions, of wastes. (printed by gen_paq14.py). (joined out of PaQ17 by shake.py) -/
import Derived.Test.YtdoneomahlfkbaaGreatOnc29
set_option linter.unusedVariables false
set_option linter.unusedSimpArgs false
set_option maxRecDepth 100000
set_option maxHeartbeats 8000000
namespace Go.Proofs.YtdoneomahlfkbaaGreat
section
open Go.RowKit OctMath
variable {σ:Type}
def sesF (M:Md σ) (s:σ) (x:SesT):σ×SesT:=bnd (M.u64 s x.client) fun s1 y1=>bnd (M.u64 s1 x.seq) fun s2 y2=>bnd (M.flag s2 x.opn) fun s3 y3=>bnd (M.u64 s3 x.version) fun s4 y4=>bnd (M.int s4 x.code) fun s5 y5=>(s5,⟨y1,y2,y3,y4,y5⟩)
def zSes:SesT:=⟨0,0,false,0,0⟩
def sessF (M:Md σ) (s:σ) (l:List SesT):σ×List SesT:=itF M (sesF M) (fun i=>l.getD i zSes) (M.len s l.length).2 (M.len s l.length).1
theorem f_sesF {M:Md σ} (hM:MdOk M) {s:σ} {a:Nat} {x:SesT} (HO:SesOk x) (h:M.fit s (a+50)):M.fit (sesF M s x).1 a:=by
 show M.fit (bnd (M.u64 s x.client) fun s1 y1=>bnd (M.u64 s1 x.seq) fun s2 y2=>bnd (M.flag s2 x.opn) fun s3 y3=>bnd (M.u64 s3 x.version) fun s4 y4=>bnd (M.int s4 x.code) fun s5 y5=>(s5,⟨y1,y2,y3,y4,y5⟩):σ×SesT).1 a
 have h1:=hM.f_u64 (s:=s) (x:=x.client) (a:=a+40) (hM.mono h (by omega)) HO.client
 generalize M.u64 s x.client=r1 at *
 obtain⟨s1,y1⟩:=r1
 rw [bnd_mk]
 have h2:=hM.f_u64 (s:=s1) (x:=x.seq) (a:=a+30) (hM.mono h1 (by omega)) HO.seq
 generalize M.u64 s1 x.seq=r2 at *
 obtain⟨s2,y2⟩:=r2
 rw [bnd_mk]
 have h3:=hM.f_flag (s:=s2) (x:=x.opn) (a:=a+20) (hM.mono h2 (by omega))
 generalize M.flag s2 x.opn=r3 at *
 obtain⟨s3,y3⟩:=r3
 rw [bnd_mk]
 have h4:=hM.f_u64 (s:=s3) (x:=x.version) (a:=a+10) (hM.mono h3 (by omega)) HO.version
 generalize M.u64 s3 x.version=r4 at *
 obtain⟨s4,y4⟩:=r4
 rw [bnd_mk]
 have h5:=hM.f_int (s:=s4) (x:=x.code) (a:=a+0) (hM.mono h4 (by omega)) HO.code
 generalize M.int s4 x.code=r5 at *
 obtain⟨s5,y5⟩:=r5
 rw [bnd_mk]
 exact hM.mono h5 (by omega)
theorem zSes_ok:SesOk zSes:=⟨by decide,by decide,by decide,⟨by decide,by decide⟩⟩
theorem f_sess {M:Md σ} (hM:MdOk M) {s:σ} {a:Nat} {l:List SesT} (HO:(∀y ∈ l,SesOk y)∧l.length≤1048576) (h:M.fit s (a+52428810)):M.fit (sessF M s l).1 a:=by
 have h1:=hM.f_len (s:=s) (a:=a+52428800) (x:=l.length) h (by have:=HO.2;omega)
 have h2:=hM.r_len (s:=s) (x:=l.length) HO.2
 exact itF_fit hM (one:=sesF M) (arg:=fun i=>l.getD i zSes) (c:=50) (fun s i a h=>f_sesF hM (getD_all (P:=SesOk) HO.1 zSes_ok i) h) _ a (hM.mono h1 (by omega))
def RetSes (M:Md σ) (s':σ) (xs:List SesT) (w:World) (e:Ending) (w':World):Prop :=
 ∃A c,e = .returned (.slice A xs.length c)∧Lx M w.heap.size 5 A c xs.length (xs.flatMap sesL) w'∧M.St s' w'∧Stp M w w'
theorem pf_sess (M:Md σ) (hM:MdOk M) (s:σ) (A:Option Addr) (n cap:Nat) (ms:List SesT) (w:World) (hS:Hid (M.St s w)) (hL:Hid (Ls M 5 A n (ms.flatMap sesL) w)) (hn:Hid (ms.length=n)) (hn2:n≤1048576) (hI:Hid (∀m ∈ ms,SesOk m)) (hz:Hid (M.write=false→ms=[])) (hf:Hid (M.fit s 52428810)) :
 Calls Tryz.prog 112 #[.pointer (some ⟨M.g,0,none⟩),.slice A n cap] w (RetSes M (sessF M s ms).1 (sessF M s ms).2 w):=by
 have HR:=Lh (show sessF M s ms=itF M (sesF M) (fun i=>ms.getD i zSes) (M.len s ms.length).2 (M.len s ms.length).1 from rfl)
 have HC:=Lh (hM.c_len s n w hS (by omega) (hM.mono hf.out (by omega)))
 have hm:=hM.r_len (s:=s) (x:=n) hn2
 have HW:=Lh (fun h=>hM.wlen h s n)
 have HF:=Lh (hM.f_len (s:=s) (a:=52428800) (x:=n) hf.out (by omega))
 have HIG:=Lh (fun i=>getD_all (P:=fun m:SesT=>SesOk m) (z:=zSes) hI.out zSes_ok i)
 rw [hn.out] at HR
 generalize sessF M s ms=R at *
 generalize M.len s n=r at *
 obtain⟨s1,m⟩:=r
 simp only at HC HR hm HW HF
 go_enter Tryz.func112,Tryz.ntmps112
 go_wp2_with fail
 refine HC.out.mono ?_
 rintro e w2 ⟨rfl,hs1,hk1⟩
 have HG0:=Lh (Gr.start 92 5 ((Wk.start hS.out).call hs1 hk1))
 have HL1:=Lh (hL.out.call hk1)
 have HA:=Lh (show 0<n→∀ad,A=some ad→ad.block<w2.heap.size from fun h ad e=>(HL1.out.free h ad e).lt)
 clear hs1 hk1 HC
 go_wp2
 go_loopw [6,7,8] (fun vo vi _ wr=>∃ (k:Nat) (s':σ) (ys:List SesT),k≤m∧vi = .int .i64 k∧Hid (itF M (sesF M) (fun i=>ms.getD i zSes) k s1=(s',ys))∧Hid (Gr M w w2 92 5 vo k (ys.flatMap sesL) s' wr)∧Hid (ys.length=k)∧Hid (Ls M 5 A n (ms.flatMap sesL) wr)) (fun _ vi _ _=>m - (intOf vi).toNat)
 case atStart=>exact⟨0,s1,[],by omega,rfl,Lh rfl,HG0,Lh rfl,HL1⟩
 case round =>
  obtain⟨k,s',ys,hk,rfl,hT,hG,hlen,hLr⟩:=hrel
  clear HG0 HL1
  have hcw:=hM.cwrite hG.out.wk.st
  have hcb:=hM.cbad hG.out.wk.st
  by_cases hlt:k<m
  · have d1:decide (k<m)=true:=decide_eq_true hlt
    cases hbad:M.bad s' with
    | true =>
      rw [hbad] at hcb
      have hb:M.bad (itF M (sesF M) (fun i=>ms.getD i zSes) k s1).1=true:=by rw [hT.out];exact hbad
      have HE:=Lh ((HR.out.trans (itF_bad hb hk)).trans hT.out)
      clear hbad hb
      go_wp2
      go_ret
      rw [HE.out]
      rw [← hlen.out] at hG
      exact hG.out.list
    | false =>
      rw [hbad] at hcb
      have HT1:=Lh (itF_more hT.out hbad)
      have hfk:=itF_fit hM (one:=sesF M) (arg:=(fun i=>ms.getD i zSes)) (c:=50) (fun s i a h=>f_sesF hM (HIG.out i) h) k 50 (hM.mono HF.out (by omega))
      rw [hT.out] at hfk
      have HFK:=Lh hfk
      have HOE:=Lh (HIG.out k)
      clear hbad hfk
      cases hw:M.write with
      | true =>
        rw [hw] at hcw
        have HWW:=Lh hw
        obtain rfl:=HW.out hw
        obtain⟨ad,hA,hbl,hc⟩:=hLr.out.rd.2 (by omega:0<m)
        subst hA
        have hke:k<ms.length:=by rw [hn.out];exact hlt
        have hrow:=row_cells (cells:=sesL) (size:=5) (fun _=>rfl) hc hke
        have hge:ms.getD k zSes=ms[k]:=by rw [List.getD_eq_getElem?_getD,List.getElem?_eq_getElem hke];rfl
        rw [hge] at HT1 HOE
        obtain⟨m0,hm0⟩:∃m0,ms[k]=m0:=⟨_,rfl⟩
        rw [hm0] at HT1 HOE hrow
        have HROW:=Lh (cells_below' hrow (by rw [block_of_add];exact hbl):∀W,Below wr.heap.size wr W→_)
        clear hw hc hbl hrow hge hm0
        obtain⟨x,hx⟩:∃x,wr.heap.size=x:=⟨_,rfl⟩
        have hbs:=Lh (hG.out.off (Nat.le_refl _))
        have haL:=Lh (hLr.out.apart (Nat.le_refl _))
        have hnw:=Blk.new wr 92 #[.int .u64 0,.int .u64 0,.bool false,.int .u64 0,.int .i64 0]
        rw [hx] at hbs haL hnw
        have HNW:=Lh hnw
        clear hnw
        go_wp2_with (first
         | (refine wpl_store_blk rfl 92 (.tmp 8) (.tmp 25) rfl x 92 #[.int .u64 0,.int .u64 0,.bool false,.int .u64 0,.int .i64 0] #[.int .u64 0,.int .u64 0,.bool false,.int .u64 0,.int .i64 0] rfl rfl HNW.out rfl Tryz.sizeSe rfl ?_;intro w4 hB4 hO4
            have hX:=(Bk.new hM hG.out.wk #[.int .u64 0,.int .u64 0,.bool false,.int .u64 0,.int .i64 0] 92)
            have hG4:=hG.out.alloc hM (.cells #[.int .u64 0,.int .u64 0,.bool false,.int .u64 0,.int .i64 0] 92)
            rw [hx] at hX
            have X4:=Lh (hX.turn hM hG4.wk.st hO4.out hB4.out)
            have G4:=Lh (hG4.only hM hX hO4.out hbs.out)
            have L4:=Lh ((hLr.out.alloc hM hG.out.wk.st (.cells #[.int .u64 0,.int .u64 0,.bool false,.int .u64 0,.int .i64 0] 92)).only hM hG4.wk.st hO4.out hX.free haL.out)
            have pw:=hM.cwrite G4.out.wk.st
            rw [HWW.out] at pw
            have HRW:=Lh (HROW.out w4 (((Below.refl _ _).alloc (Nat.le_refl _) _).trans (hO4.out.below (by rw [hx];exact Nat.le_refl _))))
            clear hX hG4 hB4 hO4)
         | (refine wpl_load_at rfl 92 (.tmp 32) rfl (ad.add (k*5)) (#[.int .u64 (m0.client:Int),.int .u64 (m0.seq:Int),.bool m0.opn,.int .u64 (m0.version:Int),.int .i64 m0.code]:Array Value).toList _ rfl HRW.out Tryz.underlying92 rfl Tryz.sizeSe ?_)
         | (refine wpl_store_blk rfl 92 (.tmp 8) (.tmp 33) rfl x 92 _ #[.int .u64 (m0.client:Int),.int .u64 (m0.seq:Int),.bool m0.opn,.int .u64 (m0.version:Int),.int .i64 m0.code] rfl rfl X4.out.blk rfl Tryz.sizeSe rfl ?_;intro w5 hB5 hO5
            have G:=Lh (G4.out.only hM X4.out hO5.out hbs.out)
            have X:=Lh (X4.out.turn hM G4.out.wk.st hO5.out hB5.out)
            have L:=Lh (L4.out.only hM G4.out.wk.st hO5.out X4.out.free haL.out)
            clear pw HWW hB5 hO5 G4 X4 L4 HRW
            have cx0:=X.out.blk.cell 0))
        have HR3:=Lh (show sesF M s' m0=bnd (M.u64 s' m0.client) fun s1 y1=>bnd (M.u64 s1 m0.seq) fun s2 y2=>bnd (M.flag s2 m0.opn) fun s3 y3=>bnd (M.u64 s3 m0.version) fun s4 y4=>bnd (M.int s4 m0.code) fun s5 y5=>(s5,⟨y1,y2,y3,y4,y5⟩) from rfl)
        have HF:=HFK
        rw [HR3.out] at HT1
        have HC:=Lh (hM.c_u64 s' m0.client _ (Lh G.out.wk.st) HOE.out.client (hM.mono HF.out (by omega)))
        have HF:=Lh (hM.f_u64 (s:=s') (x:=m0.client) (a:=40) (hM.mono HF.out (by omega)) HOE.out.client)
        generalize M.u64 s' m0.client=r at *
        obtain⟨s1,y1⟩:=r
        rw [bnd_mk] at HT1
        simp only at HC HF
        refine HC.out.mono ?_
        rintro e w6 ⟨rfl,hs,hk⟩
        clear HC
        have L:=Lh (L.out.call hk)
        have X:=Lh (X.out.call hk)
        have G:=Lh (G.out.call hs hk)
        clear hs hk
        have cx0:=X.out.blk.cell 0
        have cx1:=X.out.blk.cell 1
        have fx:=X.out.blk.frozen
        go_wp2_with fail
        obtain⟨v1,ew⟩:∃v1,w6.setCell ⟨x,0,none⟩ (.int .u64 (y1:Int))=v1:=⟨_,rfl⟩
        have hO:=(Only.set_ w6 x 0 (.int .u64 (y1:Int)))
        have hB:Blk (w6.setCell ⟨x,0,none⟩ (.int .u64 (y1:Int))) x 92 #[.int .u64 (y1:Int),.int .u64 (m0.seq:Int),.bool m0.opn,.int .u64 (m0.version:Int),.int .i64 m0.code]:=by have:=(X.out.blk.set_ 0 (.int .u64 (y1:Int)));simpa using this
        rw [ew] at hO hB ⊢
        have L:=Lh (L.out.only hM G.out.wk.st hO X.out.free haL.out)
        have X1:=Lh (X.out.turn hM G.out.wk.st hO hB)
        have G:=Lh (G.out.only hM X.out hO hbs.out)
        have X:=X1
        clear X1 ew hO hB fx cx0 cx1
        have HC:=Lh (hM.c_u64 s1 m0.seq _ (Lh G.out.wk.st) HOE.out.seq (hM.mono HF.out (by omega)))
        have HF:=Lh (hM.f_u64 (s:=s1) (x:=m0.seq) (a:=30) (hM.mono HF.out (by omega)) HOE.out.seq)
        generalize M.u64 s1 m0.seq=r at *
        obtain⟨s2,y2⟩:=r
        rw [bnd_mk] at HT1
        simp only at HC HF
        refine HC.out.mono ?_
        rintro e w7 ⟨rfl,hs,hk⟩
        clear HC
        have L:=Lh (L.out.call hk)
        have X:=Lh (X.out.call hk)
        have G:=Lh (G.out.call hs hk)
        clear hs hk
        have cx1:=X.out.blk.cell 1
        have cx2:=X.out.blk.cell 2
        have fx:=X.out.blk.frozen
        go_wp2_with fail
        obtain⟨v2,ew⟩:∃v2,w7.setCell ⟨x,1,none⟩ (.int .u64 (y2:Int))=v2:=⟨_,rfl⟩
        have hO:=(Only.set_ w7 x 1 (.int .u64 (y2:Int)))
        have hB:Blk (w7.setCell ⟨x,1,none⟩ (.int .u64 (y2:Int))) x 92 #[.int .u64 (y1:Int),.int .u64 (y2:Int),.bool m0.opn,.int .u64 (m0.version:Int),.int .i64 m0.code]:=by have:=(X.out.blk.set_ 1 (.int .u64 (y2:Int)));simpa using this
        rw [ew] at hO hB ⊢
        have L:=Lh (L.out.only hM G.out.wk.st hO X.out.free haL.out)
        have X1:=Lh (X.out.turn hM G.out.wk.st hO hB)
        have G:=Lh (G.out.only hM X.out hO hbs.out)
        have X:=X1
        clear X1 ew hO hB fx cx1 cx2
        have HC:=Lh (hM.c_flag s2 m0.opn _ (Lh G.out.wk.st) (hM.mono HF.out (by omega)))
        have HF:=Lh (hM.f_flag (s:=s2) (x:=m0.opn) (a:=20) (hM.mono HF.out (by omega)))
        generalize M.flag s2 m0.opn=r at *
        obtain⟨s3,y3⟩:=r
        rw [bnd_mk] at HT1
        simp only at HC HF
        refine HC.out.mono ?_
        rintro e w8 ⟨rfl,hs,hk⟩
        clear HC
        have L:=Lh (L.out.call hk)
        have X:=Lh (X.out.call hk)
        have G:=Lh (G.out.call hs hk)
        clear hs hk
        have cx2:=X.out.blk.cell 2
        have cx3:=X.out.blk.cell 3
        have fx:=X.out.blk.frozen
        go_wp2_with fail
        obtain⟨v3,ew⟩:∃v3,w8.setCell ⟨x,2,none⟩ (.bool y3)=v3:=⟨_,rfl⟩
        have hO:=(Only.set_ w8 x 2 (.bool y3))
        have hB:Blk (w8.setCell ⟨x,2,none⟩ (.bool y3)) x 92 #[.int .u64 (y1:Int),.int .u64 (y2:Int),.bool y3,.int .u64 (m0.version:Int),.int .i64 m0.code]:=by have:=(X.out.blk.set_ 2 (.bool y3));simpa using this
        rw [ew] at hO hB ⊢
        have L:=Lh (L.out.only hM G.out.wk.st hO X.out.free haL.out)
        have X1:=Lh (X.out.turn hM G.out.wk.st hO hB)
        have G:=Lh (G.out.only hM X.out hO hbs.out)
        have X:=X1
        clear X1 ew hO hB fx cx2 cx3
        have HC:=Lh (hM.c_u64 s3 m0.version _ (Lh G.out.wk.st) HOE.out.version (hM.mono HF.out (by omega)))
        have HF:=Lh (hM.f_u64 (s:=s3) (x:=m0.version) (a:=10) (hM.mono HF.out (by omega)) HOE.out.version)
        generalize M.u64 s3 m0.version=r at *
        obtain⟨s4,y4⟩:=r
        rw [bnd_mk] at HT1
        simp only at HC HF
        refine HC.out.mono ?_
        rintro e w9 ⟨rfl,hs,hk⟩
        clear HC
        have L:=Lh (L.out.call hk)
        have X:=Lh (X.out.call hk)
        have G:=Lh (G.out.call hs hk)
        clear hs hk
        have cx3:=X.out.blk.cell 3
        have cx4:=X.out.blk.cell 4
        have fx:=X.out.blk.frozen
        go_wp2_with fail
        obtain⟨v4,ew⟩:∃v4,w9.setCell ⟨x,3,none⟩ (.int .u64 (y4:Int))=v4:=⟨_,rfl⟩
        have hO:=(Only.set_ w9 x 3 (.int .u64 (y4:Int)))
        have hB:Blk (w9.setCell ⟨x,3,none⟩ (.int .u64 (y4:Int))) x 92 #[.int .u64 (y1:Int),.int .u64 (y2:Int),.bool y3,.int .u64 (y4:Int),.int .i64 m0.code]:=by have:=(X.out.blk.set_ 3 (.int .u64 (y4:Int)));simpa using this
        rw [ew] at hO hB ⊢
        have L:=Lh (L.out.only hM G.out.wk.st hO X.out.free haL.out)
        have X1:=Lh (X.out.turn hM G.out.wk.st hO hB)
        have G:=Lh (G.out.only hM X.out hO hbs.out)
        have X:=X1
        clear X1 ew hO hB fx cx3 cx4
        have HC:=Lh (hM.c_int s4 m0.code _ (Lh G.out.wk.st) HOE.out.code (hM.mono HF.out (by omega)))
        have HF:=Lh (hM.f_int (s:=s4) (x:=m0.code) (a:=0) (hM.mono HF.out (by omega)) HOE.out.code)
        generalize M.int s4 m0.code=r at *
        obtain⟨s5,y5⟩:=r
        rw [bnd_mk] at HT1
        simp only at HC HF
        refine HC.out.mono ?_
        rintro e w10 ⟨rfl,hs,hk⟩
        clear HC
        have L:=Lh (L.out.call hk)
        have X:=Lh (X.out.call hk)
        have G:=Lh (G.out.call hs hk)
        clear hs hk
        have cx4:=X.out.blk.cell 4
        have fx:=X.out.blk.frozen
        obtain⟨v5,ew⟩:∃v5,w10.setCell ⟨x,4,none⟩ (.int .i64 y5)=v5:=⟨_,rfl⟩
        have hO:=(Only.set_ w10 x 4 (.int .i64 y5))
        have hB:Blk (w10.setCell ⟨x,4,none⟩ (.int .i64 y5)) x 92 #[.int .u64 (y1:Int),.int .u64 (y2:Int),.bool y3,.int .u64 (y4:Int),.int .i64 y5]:=by have:=(X.out.blk.set_ 4 (.int .i64 y5));simpa using this
        rw [ew] at hO hB
        have L:=Lh (L.out.only hM G.out.wk.st hO X.out.free haL.out)
        have X1:=Lh (X.out.turn hM G.out.wk.st hO hB)
        have G:=Lh (G.out.only hM X.out hO hbs.out)
        have X:=X1
        clear X1 hO hB
        go_wp2_with (first
         | (refine wpl_load_blk rfl 92 (.tmp 8) rfl x 92 _ _ rfl X.out.blk Tryz.underlying92 rfl Tryz.sizeSe ?_)
         | (at_builtin
            refine wpl_gr hM rfl _ _ 31 _ 40 Tryz.underlying31 Tryz.infoSes rfl (by decide) (by decide) rfl G.out (by omega) [.int .u64 (y1:Int),.int .u64 (y2:Int),.bool y3,.int .u64 (y4:Int),.int .i64 y5] rfl (by intro u hu;simp only [List.mem_cons,List.not_mem_nil,or_false] at hu;rcases hu with rfl | rfl | rfl | rfl | rfl <;> rfl) rfl rfl ?_
            intro v10 w10 hG10))
        refine⟨⟨k+1,s5,ys ++ [⟨y1,y2,y3,y4,y5⟩],by omega,by go_num,Lh (by exact HT1.out),Lh (by rw [List.flatMap_append];exact hG10.out.1),Lh (by rw [List.length_append,hlen.out];rfl),Lh (Ls.more hM (G.out.alloc hM _) hG10.out.2 (L.out.alloc hM G.out.wk.st _) HA.out)⟩,by simp [intOf];omega⟩
      | false =>
        rw [hw] at hcw
        have HWW:=Lh hw
        have hge:ms.getD k zSes=zSes:=by rw [hz.out hw];rfl
        rw [hge] at HT1 HOE
        obtain⟨m0,hm0⟩:∃m0,zSes=m0:=⟨_,rfl⟩
        rw [hm0] at HOE
        have HT1:=(show Hid (itF M (sesF M) (fun i=>ms.getD i zSes) (k+1) s1=((sesF M s' m0).1,ys ++ [(sesF M s' m0).2])) from by rw [← hm0];exact HT1)
        clear hw hge
        obtain⟨x,hx⟩:∃x,wr.heap.size=x:=⟨_,rfl⟩
        have hbs:=Lh (hG.out.off (Nat.le_refl _))
        have haL:=Lh (hLr.out.apart (Nat.le_refl _))
        have hnw:=Blk.new wr 92 #[.int .u64 0,.int .u64 0,.bool false,.int .u64 0,.int .i64 0]
        rw [hx] at hbs haL hnw
        have HNW:=Lh hnw
        clear hnw
        go_wp2_with (first
         | (refine wpl_store_blk rfl 92 (.tmp 8) (.tmp 25) rfl x 92 #[.int .u64 0,.int .u64 0,.bool false,.int .u64 0,.int .i64 0] #[.int .u64 0,.int .u64 0,.bool false,.int .u64 0,.int .i64 0] rfl rfl HNW.out rfl Tryz.sizeSe rfl ?_;intro w4 hB4 hO4
            have hX:=(Bk.new hM hG.out.wk #[.int .u64 0,.int .u64 0,.bool false,.int .u64 0,.int .i64 0] 92)
            have hG4:=hG.out.alloc hM (.cells #[.int .u64 0,.int .u64 0,.bool false,.int .u64 0,.int .i64 0] 92)
            rw [hx] at hX
            have X4:=Lh (hX.turn hM hG4.wk.st hO4.out hB4.out)
            have G4:=Lh (hG4.only hM hX hO4.out hbs.out)
            have L4:=Lh ((hLr.out.alloc hM hG.out.wk.st (.cells #[.int .u64 0,.int .u64 0,.bool false,.int .u64 0,.int .i64 0] 92)).only hM hG4.wk.st hO4.out hX.free haL.out)
            have pw:=hM.cwrite G4.out.wk.st
            rw [HWW.out] at pw
            have X:=Lh (show Bk M w x 92 #[.int .u64 (m0.client:Int),.int .u64 (m0.seq:Int),.bool m0.opn,.int .u64 (m0.version:Int),.int .i64 m0.code] w4 from (by rw [← hm0];exact X4.out))
            have G:=G4
            have L:=L4
            clear hX hG4 hB4 hO4 G4 L4 X4 hm0
            have cx0:=X.out.blk.cell 0))
        have HR3:=Lh (show sesF M s' m0=bnd (M.u64 s' m0.client) fun s1 y1=>bnd (M.u64 s1 m0.seq) fun s2 y2=>bnd (M.flag s2 m0.opn) fun s3 y3=>bnd (M.u64 s3 m0.version) fun s4 y4=>bnd (M.int s4 m0.code) fun s5 y5=>(s5,⟨y1,y2,y3,y4,y5⟩) from rfl)
        have HF:=HFK
        rw [HR3.out] at HT1
        have HC:=Lh (hM.c_u64 s' m0.client _ (Lh G.out.wk.st) HOE.out.client (hM.mono HF.out (by omega)))
        have HF:=Lh (hM.f_u64 (s:=s') (x:=m0.client) (a:=40) (hM.mono HF.out (by omega)) HOE.out.client)
        generalize M.u64 s' m0.client=r at *
        obtain⟨s1,y1⟩:=r
        rw [bnd_mk] at HT1
        simp only at HC HF
        refine HC.out.mono ?_
        rintro e w6 ⟨rfl,hs,hk⟩
        clear HC
        have L:=Lh (L.out.call hk)
        have X:=Lh (X.out.call hk)
        have G:=Lh (G.out.call hs hk)
        clear hs hk
        have cx0:=X.out.blk.cell 0
        have cx1:=X.out.blk.cell 1
        have fx:=X.out.blk.frozen
        go_wp2_with fail
        obtain⟨v1,ew⟩:∃v1,w6.setCell ⟨x,0,none⟩ (.int .u64 (y1:Int))=v1:=⟨_,rfl⟩
        have hO:=(Only.set_ w6 x 0 (.int .u64 (y1:Int)))
        have hB:Blk (w6.setCell ⟨x,0,none⟩ (.int .u64 (y1:Int))) x 92 #[.int .u64 (y1:Int),.int .u64 (m0.seq:Int),.bool m0.opn,.int .u64 (m0.version:Int),.int .i64 m0.code]:=by have:=(X.out.blk.set_ 0 (.int .u64 (y1:Int)));simpa using this
        rw [ew] at hO hB ⊢
        have L:=Lh (L.out.only hM G.out.wk.st hO X.out.free haL.out)
        have X1:=Lh (X.out.turn hM G.out.wk.st hO hB)
        have G:=Lh (G.out.only hM X.out hO hbs.out)
        have X:=X1
        clear X1 ew hO hB fx cx0 cx1
        have HC:=Lh (hM.c_u64 s1 m0.seq _ (Lh G.out.wk.st) HOE.out.seq (hM.mono HF.out (by omega)))
        have HF:=Lh (hM.f_u64 (s:=s1) (x:=m0.seq) (a:=30) (hM.mono HF.out (by omega)) HOE.out.seq)
        generalize M.u64 s1 m0.seq=r at *
        obtain⟨s2,y2⟩:=r
        rw [bnd_mk] at HT1
        simp only at HC HF
        refine HC.out.mono ?_
        rintro e w7 ⟨rfl,hs,hk⟩
        clear HC
        have L:=Lh (L.out.call hk)
        have X:=Lh (X.out.call hk)
        have G:=Lh (G.out.call hs hk)
        clear hs hk
        have cx1:=X.out.blk.cell 1
        have cx2:=X.out.blk.cell 2
        have fx:=X.out.blk.frozen
        go_wp2_with fail
        obtain⟨v2,ew⟩:∃v2,w7.setCell ⟨x,1,none⟩ (.int .u64 (y2:Int))=v2:=⟨_,rfl⟩
        have hO:=(Only.set_ w7 x 1 (.int .u64 (y2:Int)))
        have hB:Blk (w7.setCell ⟨x,1,none⟩ (.int .u64 (y2:Int))) x 92 #[.int .u64 (y1:Int),.int .u64 (y2:Int),.bool m0.opn,.int .u64 (m0.version:Int),.int .i64 m0.code]:=by have:=(X.out.blk.set_ 1 (.int .u64 (y2:Int)));simpa using this
        rw [ew] at hO hB ⊢
        have L:=Lh (L.out.only hM G.out.wk.st hO X.out.free haL.out)
        have X1:=Lh (X.out.turn hM G.out.wk.st hO hB)
        have G:=Lh (G.out.only hM X.out hO hbs.out)
        have X:=X1
        clear X1 ew hO hB fx cx1 cx2
        have HC:=Lh (hM.c_flag s2 m0.opn _ (Lh G.out.wk.st) (hM.mono HF.out (by omega)))
        have HF:=Lh (hM.f_flag (s:=s2) (x:=m0.opn) (a:=20) (hM.mono HF.out (by omega)))
        generalize M.flag s2 m0.opn=r at *
        obtain⟨s3,y3⟩:=r
        rw [bnd_mk] at HT1
        simp only at HC HF
        refine HC.out.mono ?_
        rintro e w8 ⟨rfl,hs,hk⟩
        clear HC
        have L:=Lh (L.out.call hk)
        have X:=Lh (X.out.call hk)
        have G:=Lh (G.out.call hs hk)
        clear hs hk
        have cx2:=X.out.blk.cell 2
        have cx3:=X.out.blk.cell 3
        have fx:=X.out.blk.frozen
        go_wp2_with fail
        obtain⟨v3,ew⟩:∃v3,w8.setCell ⟨x,2,none⟩ (.bool y3)=v3:=⟨_,rfl⟩
        have hO:=(Only.set_ w8 x 2 (.bool y3))
        have hB:Blk (w8.setCell ⟨x,2,none⟩ (.bool y3)) x 92 #[.int .u64 (y1:Int),.int .u64 (y2:Int),.bool y3,.int .u64 (m0.version:Int),.int .i64 m0.code]:=by have:=(X.out.blk.set_ 2 (.bool y3));simpa using this
        rw [ew] at hO hB ⊢
        have L:=Lh (L.out.only hM G.out.wk.st hO X.out.free haL.out)
        have X1:=Lh (X.out.turn hM G.out.wk.st hO hB)
        have G:=Lh (G.out.only hM X.out hO hbs.out)
        have X:=X1
        clear X1 ew hO hB fx cx2 cx3
        have HC:=Lh (hM.c_u64 s3 m0.version _ (Lh G.out.wk.st) HOE.out.version (hM.mono HF.out (by omega)))
        have HF:=Lh (hM.f_u64 (s:=s3) (x:=m0.version) (a:=10) (hM.mono HF.out (by omega)) HOE.out.version)
        generalize M.u64 s3 m0.version=r at *
        obtain⟨s4,y4⟩:=r
        rw [bnd_mk] at HT1
        simp only at HC HF
        refine HC.out.mono ?_
        rintro e w9 ⟨rfl,hs,hk⟩
        clear HC
        have L:=Lh (L.out.call hk)
        have X:=Lh (X.out.call hk)
        have G:=Lh (G.out.call hs hk)
        clear hs hk
        have cx3:=X.out.blk.cell 3
        have cx4:=X.out.blk.cell 4
        have fx:=X.out.blk.frozen
        go_wp2_with fail
        obtain⟨v4,ew⟩:∃v4,w9.setCell ⟨x,3,none⟩ (.int .u64 (y4:Int))=v4:=⟨_,rfl⟩
        have hO:=(Only.set_ w9 x 3 (.int .u64 (y4:Int)))
        have hB:Blk (w9.setCell ⟨x,3,none⟩ (.int .u64 (y4:Int))) x 92 #[.int .u64 (y1:Int),.int .u64 (y2:Int),.bool y3,.int .u64 (y4:Int),.int .i64 m0.code]:=by have:=(X.out.blk.set_ 3 (.int .u64 (y4:Int)));simpa using this
        rw [ew] at hO hB ⊢
        have L:=Lh (L.out.only hM G.out.wk.st hO X.out.free haL.out)
        have X1:=Lh (X.out.turn hM G.out.wk.st hO hB)
        have G:=Lh (G.out.only hM X.out hO hbs.out)
        have X:=X1
        clear X1 ew hO hB fx cx3 cx4
        have HC:=Lh (hM.c_int s4 m0.code _ (Lh G.out.wk.st) HOE.out.code (hM.mono HF.out (by omega)))
        have HF:=Lh (hM.f_int (s:=s4) (x:=m0.code) (a:=0) (hM.mono HF.out (by omega)) HOE.out.code)
        generalize M.int s4 m0.code=r at *
        obtain⟨s5,y5⟩:=r
        rw [bnd_mk] at HT1
        simp only at HC HF
        refine HC.out.mono ?_
        rintro e w10 ⟨rfl,hs,hk⟩
        clear HC
        have L:=Lh (L.out.call hk)
        have X:=Lh (X.out.call hk)
        have G:=Lh (G.out.call hs hk)
        clear hs hk
        have cx4:=X.out.blk.cell 4
        have fx:=X.out.blk.frozen
        obtain⟨v5,ew⟩:∃v5,w10.setCell ⟨x,4,none⟩ (.int .i64 y5)=v5:=⟨_,rfl⟩
        have hO:=(Only.set_ w10 x 4 (.int .i64 y5))
        have hB:Blk (w10.setCell ⟨x,4,none⟩ (.int .i64 y5)) x 92 #[.int .u64 (y1:Int),.int .u64 (y2:Int),.bool y3,.int .u64 (y4:Int),.int .i64 y5]:=by have:=(X.out.blk.set_ 4 (.int .i64 y5));simpa using this
        rw [ew] at hO hB
        have L:=Lh (L.out.only hM G.out.wk.st hO X.out.free haL.out)
        have X1:=Lh (X.out.turn hM G.out.wk.st hO hB)
        have G:=Lh (G.out.only hM X.out hO hbs.out)
        have X:=X1
        clear X1 hO hB
        go_wp2_with (first
         | (refine wpl_load_blk rfl 92 (.tmp 8) rfl x 92 _ _ rfl X.out.blk Tryz.underlying92 rfl Tryz.sizeSe ?_)
         | (at_builtin
            refine wpl_gr hM rfl _ _ 31 _ 40 Tryz.underlying31 Tryz.infoSes rfl (by decide) (by decide) rfl G.out (by omega) [.int .u64 (y1:Int),.int .u64 (y2:Int),.bool y3,.int .u64 (y4:Int),.int .i64 y5] rfl (by intro u hu;simp only [List.mem_cons,List.not_mem_nil,or_false] at hu;rcases hu with rfl | rfl | rfl | rfl | rfl <;> rfl) rfl rfl ?_
            intro v10 w10 hG10))
        refine⟨⟨k+1,s5,ys ++ [⟨y1,y2,y3,y4,y5⟩],by omega,by go_num,Lh (by exact HT1.out),Lh (by rw [List.flatMap_append];exact hG10.out.1),Lh (by rw [List.length_append,hlen.out];rfl),Lh (Ls.more hM (G.out.alloc hM _) hG10.out.2 (L.out.alloc hM G.out.wk.st _) HA.out)⟩,by simp [intOf];omega⟩
  · obtain rfl:k=m:=by omega
    have HE:=Lh (HR.out.trans hT.out)
    go_wp2
    go_ret
    rw [HE.out]
    rw [← hlen.out] at hG
    exact hG.out.list
def wasF (M:Md σ) (s:σ) (x:WasT):σ×WasT:=bnd (idF M s x.id) fun s1 y1=>bnd (M.int s1 x.node) fun s2 y2=>(s2,⟨y1,y2⟩)
def zWas:WasT:=⟨⟨0,0,0⟩,0⟩
def wassF (M:Md σ) (s:σ) (l:List WasT):σ×List WasT:=itF M (wasF M) (fun i=>l.getD i zWas) (M.len s l.length).2 (M.len s l.length).1
theorem f_wasF {M:Md σ} (hM:MdOk M) {s:σ} {a:Nat} {x:WasT} (HO:WasOk x) (h:M.fit s (a+40)):M.fit (wasF M s x).1 a:=by
 show M.fit (bnd (idF M s x.id) fun s1 y1=>bnd (M.int s1 x.node) fun s2 y2=>(s2,⟨y1,y2⟩):σ×WasT).1 a
 have h1:=f_id hM (a:=a+10) (hM.mono h (by omega)) HO.id
 generalize idF M s x.id=r1 at *
 obtain⟨s1,y1⟩:=r1
 rw [bnd_mk]
 have h2:=hM.f_int (s:=s1) (x:=x.node) (a:=a+0) (hM.mono h1 (by omega)) HO.node
 generalize M.int s1 x.node=r2 at *
 obtain⟨s2,y2⟩:=r2
 rw [bnd_mk]
 exact hM.mono h2 (by omega)
theorem zWas_ok:WasOk zWas:=⟨⟨by decide,⟨by decide,by decide⟩,by decide⟩,⟨by decide,by decide⟩⟩
theorem f_wass {M:Md σ} (hM:MdOk M) {s:σ} {a:Nat} {l:List WasT} (HO:(∀y ∈ l,WasOk y)∧l.length≤1048576) (h:M.fit s (a+41943050)):M.fit (wassF M s l).1 a:=by
 have h1:=hM.f_len (s:=s) (a:=a+41943040) (x:=l.length) h (by have:=HO.2;omega)
 have h2:=hM.r_len (s:=s) (x:=l.length) HO.2
 exact itF_fit hM (one:=wasF M) (arg:=fun i=>l.getD i zWas) (c:=40) (fun s i a h=>f_wasF hM (getD_all (P:=WasOk) HO.1 zWas_ok i) h) _ a (hM.mono h1 (by omega))
def RetWas (M:Md σ) (s':σ) (xs:List WasT) (w:World) (e:Ending) (w':World):Prop :=
 ∃A c,e = .returned (.slice A xs.length c)∧Lx M w.heap.size 4 A c xs.length (xs.flatMap wasL) w'∧M.St s' w'∧Stp M w w'
theorem pf_wass (M:Md σ) (hM:MdOk M) (s:σ) (A:Option Addr) (n cap:Nat) (ms:List WasT) (w:World) (hS:Hid (M.St s w)) (hL:Hid (Ls M 4 A n (ms.flatMap wasL) w)) (hn:Hid (ms.length=n)) (hn2:n≤1048576) (hI:Hid (∀m ∈ ms,WasOk m)) (hz:Hid (M.write=false→ms=[])) (hf:Hid (M.fit s 41943050)) :
 Calls Tryz.prog 113 #[.pointer (some ⟨M.g,0,none⟩),.slice A n cap] w (RetWas M (wassF M s ms).1 (wassF M s ms).2 w):=by
 have HR:=Lh (show wassF M s ms=itF M (wasF M) (fun i=>ms.getD i zWas) (M.len s ms.length).2 (M.len s ms.length).1 from rfl)
 have HC:=Lh (hM.c_len s n w hS (by omega) (hM.mono hf.out (by omega)))
 have hm:=hM.r_len (s:=s) (x:=n) hn2
 have HW:=Lh (fun h=>hM.wlen h s n)
 have HF:=Lh (hM.f_len (s:=s) (a:=41943040) (x:=n) hf.out (by omega))
 have HIG:=Lh (fun i=>getD_all (P:=fun m:WasT=>WasOk m) (z:=zWas) hI.out zWas_ok i)
 rw [hn.out] at HR
 generalize wassF M s ms=R at *
 generalize M.len s n=r at *
 obtain⟨s1,m⟩:=r
 simp only at HC HR hm HW HF
 go_enter Tryz.func113,Tryz.ntmps113
 go_wp2_with fail
 refine HC.out.mono ?_
 rintro e w2 ⟨rfl,hs1,hk1⟩
 have HG0:=Lh (Gr.start 52 4 ((Wk.start hS.out).call hs1 hk1))
 have HL1:=Lh (hL.out.call hk1)
 have HA:=Lh (show 0<n→∀ad,A=some ad→ad.block<w2.heap.size from fun h ad e=>(HL1.out.free h ad e).lt)
 clear hs1 hk1 HC
 go_wp2
 go_loopw [6,7,8] (fun vo vi _ wr=>∃ (k:Nat) (s':σ) (ys:List WasT),k≤m∧vi = .int .i64 k∧Hid (itF M (wasF M) (fun i=>ms.getD i zWas) k s1=(s',ys))∧Hid (Gr M w w2 52 4 vo k (ys.flatMap wasL) s' wr)∧Hid (ys.length=k)∧Hid (Ls M 4 A n (ms.flatMap wasL) wr)) (fun _ vi _ _=>m - (intOf vi).toNat)
 case atStart=>exact⟨0,s1,[],by omega,rfl,Lh rfl,HG0,Lh rfl,HL1⟩
 case round =>
  obtain⟨k,s',ys,hk,rfl,hT,hG,hlen,hLr⟩:=hrel
  clear HG0 HL1
  have hcw:=hM.cwrite hG.out.wk.st
  have hcb:=hM.cbad hG.out.wk.st
  by_cases hlt:k<m
  · have d1:decide (k<m)=true:=decide_eq_true hlt
    cases hbad:M.bad s' with
    | true =>
      rw [hbad] at hcb
      have hb:M.bad (itF M (wasF M) (fun i=>ms.getD i zWas) k s1).1=true:=by rw [hT.out];exact hbad
      have HE:=Lh ((HR.out.trans (itF_bad hb hk)).trans hT.out)
      clear hbad hb
      go_wp2
      go_ret
      rw [HE.out]
      rw [← hlen.out] at hG
      exact hG.out.list
    | false =>
      rw [hbad] at hcb
      have HT1:=Lh (itF_more hT.out hbad)
      have hfk:=itF_fit hM (one:=wasF M) (arg:=(fun i=>ms.getD i zWas)) (c:=40) (fun s i a h=>f_wasF hM (HIG.out i) h) k 40 (hM.mono HF.out (by omega))
      rw [hT.out] at hfk
      have HFK:=Lh hfk
      have HOE:=Lh (HIG.out k)
      clear hbad hfk
      cases hw:M.write with
      | true =>
        rw [hw] at hcw
        have HWW:=Lh hw
        obtain rfl:=HW.out hw
        obtain⟨ad,hA,hbl,hc⟩:=hLr.out.rd.2 (by omega:0<m)
        subst hA
        have hke:k<ms.length:=by rw [hn.out];exact hlt
        have hrow:=row_cells (cells:=wasL) (size:=4) (fun _=>rfl) hc hke
        have hge:ms.getD k zWas=ms[k]:=by rw [List.getD_eq_getElem?_getD,List.getElem?_eq_getElem hke];rfl
        rw [hge] at HT1 HOE
        obtain⟨m0,hm0⟩:∃m0,ms[k]=m0:=⟨_,rfl⟩
        rw [hm0] at HT1 HOE hrow
        have HROW:=Lh (cells_below' hrow (by rw [block_of_add];exact hbl):∀W,Below wr.heap.size wr W→_)
        clear hw hc hbl hrow hge hm0
        obtain⟨x,hx⟩:∃x,wr.heap.size=x:=⟨_,rfl⟩
        have hbs:=Lh (hG.out.off (Nat.le_refl _))
        have haL:=Lh (hLr.out.apart (Nat.le_refl _))
        have hnw:=Blk.new wr 52 #[.int .u64 0,.int .i64 0,.int .u64 0,.int .i64 0]
        rw [hx] at hbs haL hnw
        have HNW:=Lh hnw
        clear hnw
        go_wp2_with (first
         | (refine wpl_store_blk rfl 52 (.tmp 8) (.tmp 25) rfl x 52 #[.int .u64 0,.int .i64 0,.int .u64 0,.int .i64 0] #[.int .u64 0,.int .i64 0,.int .u64 0,.int .i64 0] rfl rfl HNW.out rfl Tryz.sizeWa rfl ?_;intro w4 hB4 hO4
            have hX:=(Bk.new hM hG.out.wk #[.int .u64 0,.int .i64 0,.int .u64 0,.int .i64 0] 52)
            have hG4:=hG.out.alloc hM (.cells #[.int .u64 0,.int .i64 0,.int .u64 0,.int .i64 0] 52)
            rw [hx] at hX
            have X4:=Lh (hX.turn hM hG4.wk.st hO4.out hB4.out)
            have G4:=Lh (hG4.only hM hX hO4.out hbs.out)
            have L4:=Lh ((hLr.out.alloc hM hG.out.wk.st (.cells #[.int .u64 0,.int .i64 0,.int .u64 0,.int .i64 0] 52)).only hM hG4.wk.st hO4.out hX.free haL.out)
            have pw:=hM.cwrite G4.out.wk.st
            rw [HWW.out] at pw
            have HRW:=Lh (HROW.out w4 (((Below.refl _ _).alloc (Nat.le_refl _) _).trans (hO4.out.below (by rw [hx];exact Nat.le_refl _))))
            clear hX hG4 hB4 hO4)
         | (refine wpl_load_at rfl 52 (.tmp 32) rfl (ad.add (k*4)) (#[.int .u64 (m0.id.ver:Int),.int .i64 m0.id.idx,.int .u64 (m0.id.ep:Int),.int .i64 m0.node]:Array Value).toList _ rfl HRW.out Tryz.underlying52 rfl Tryz.sizeWa ?_)
         | (refine wpl_store_blk rfl 52 (.tmp 8) (.tmp 33) rfl x 52 _ #[.int .u64 (m0.id.ver:Int),.int .i64 m0.id.idx,.int .u64 (m0.id.ep:Int),.int .i64 m0.node] rfl rfl X4.out.blk rfl Tryz.sizeWa rfl ?_;intro w5 hB5 hO5
            have G:=Lh (G4.out.only hM X4.out hO5.out hbs.out)
            have X:=Lh (X4.out.turn hM G4.out.wk.st hO5.out hB5.out)
            have L:=Lh (L4.out.only hM G4.out.wk.st hO5.out X4.out.free haL.out)
            clear pw HWW hB5 hO5 G4 X4 L4 HRW
            have cx0:=X.out.blk.cell 0
            have cx1:=X.out.blk.cell 1
            have cx2:=X.out.blk.cell 2))
        have HR3:=Lh (show wasF M s' m0=bnd (idF M s' m0.id) fun s1 y1=>bnd (M.int s1 m0.node) fun s2 y2=>(s2,⟨y1,y2⟩) from rfl)
        have HF:=HFK
        rw [HR3.out] at HT1
        have HC:=Lh (pf_id M hM s' m0.id _ (Lh G.out.wk.st) HOE.out.id (hM.mono HF.out (by omega)))
        have HF:=Lh (f_id hM (a:=10) (hM.mono HF.out (by omega)) HOE.out.id)
        generalize idF M s' m0.id=r at *
        obtain⟨s1,y1⟩:=r
        rw [bnd_mk] at HT1
        simp only at HC HF
        refine HC.out.mono ?_
        rintro e w6 ⟨rfl,hs,hk⟩
        clear HC
        unfold idCs
        have L:=Lh (L.out.call hk)
        have X:=Lh (X.out.call hk)
        have G:=Lh (G.out.call hs hk)
        clear hs hk
        have cx0:=X.out.blk.cell 0
        have cx1:=X.out.blk.cell 1
        have cx2:=X.out.blk.cell 2
        have cx3:=X.out.blk.cell 3
        have fx:=X.out.blk.frozen
        go_wp2_with fail
        obtain⟨v1,ew⟩:∃v1,((w6.setCell ⟨x,0,none⟩ (.int .u64 (y1.ver:Int))).setCell ⟨x,1,none⟩ (.int .i64 y1.idx)).setCell ⟨x,2,none⟩ (.int .u64 (y1.ep:Int))=v1:=⟨_,rfl⟩
        have hO:=(((Only.set_ w6 x 0 (.int .u64 (y1.ver:Int))).trans (Only.set_ (w6.setCell ⟨x,0,none⟩ (.int .u64 (y1.ver:Int))) x 1 (.int .i64 y1.idx))).trans (Only.set_ ((w6.setCell ⟨x,0,none⟩ (.int .u64 (y1.ver:Int))).setCell ⟨x,1,none⟩ (.int .i64 y1.idx)) x 2 (.int .u64 (y1.ep:Int))))
        have hB:Blk (((w6.setCell ⟨x,0,none⟩ (.int .u64 (y1.ver:Int))).setCell ⟨x,1,none⟩ (.int .i64 y1.idx)).setCell ⟨x,2,none⟩ (.int .u64 (y1.ep:Int))) x 52 #[.int .u64 (y1.ver:Int),.int .i64 y1.idx,.int .u64 (y1.ep:Int),.int .i64 m0.node]:=by have:=(((X.out.blk.set_ 0 (.int .u64 (y1.ver:Int))).set_ 1 (.int .i64 y1.idx)).set_ 2 (.int .u64 (y1.ep:Int)));simpa using this
        rw [ew] at hO hB ⊢
        have L:=Lh (L.out.only hM G.out.wk.st hO X.out.free haL.out)
        have X1:=Lh (X.out.turn hM G.out.wk.st hO hB)
        have G:=Lh (G.out.only hM X.out hO hbs.out)
        have X:=X1
        clear X1 ew hO hB fx cx0 cx1 cx2 cx3
        have HC:=Lh (hM.c_int s1 m0.node _ (Lh G.out.wk.st) HOE.out.node (hM.mono HF.out (by omega)))
        have HF:=Lh (hM.f_int (s:=s1) (x:=m0.node) (a:=0) (hM.mono HF.out (by omega)) HOE.out.node)
        generalize M.int s1 m0.node=r at *
        obtain⟨s2,y2⟩:=r
        rw [bnd_mk] at HT1
        simp only at HC HF
        refine HC.out.mono ?_
        rintro e w7 ⟨rfl,hs,hk⟩
        clear HC
        have L:=Lh (L.out.call hk)
        have X:=Lh (X.out.call hk)
        have G:=Lh (G.out.call hs hk)
        clear hs hk
        have cx3:=X.out.blk.cell 3
        have fx:=X.out.blk.frozen
        obtain⟨v2,ew⟩:∃v2,w7.setCell ⟨x,3,none⟩ (.int .i64 y2)=v2:=⟨_,rfl⟩
        have hO:=(Only.set_ w7 x 3 (.int .i64 y2))
        have hB:Blk (w7.setCell ⟨x,3,none⟩ (.int .i64 y2)) x 52 #[.int .u64 (y1.ver:Int),.int .i64 y1.idx,.int .u64 (y1.ep:Int),.int .i64 y2]:=by have:=(X.out.blk.set_ 3 (.int .i64 y2));simpa using this
        rw [ew] at hO hB
        have L:=Lh (L.out.only hM G.out.wk.st hO X.out.free haL.out)
        have X1:=Lh (X.out.turn hM G.out.wk.st hO hB)
        have G:=Lh (G.out.only hM X.out hO hbs.out)
        have X:=X1
        clear X1 hO hB
        go_wp2_with (first
         | (refine wpl_load_blk rfl 52 (.tmp 8) rfl x 52 _ _ rfl X.out.blk Tryz.underlying52 rfl Tryz.sizeWa ?_)
         | (at_builtin
            refine wpl_gr hM rfl _ _ 32 _ 32 Tryz.underlying32 Tryz.infoWas rfl (by decide) (by decide) rfl G.out (by omega) [.int .u64 (y1.ver:Int),.int .i64 y1.idx,.int .u64 (y1.ep:Int),.int .i64 y2] rfl (by intro u hu;simp only [List.mem_cons,List.not_mem_nil,or_false] at hu;rcases hu with rfl | rfl | rfl | rfl <;> rfl) rfl rfl ?_
            intro v10 w10 hG10))
        refine⟨⟨k+1,s2,ys ++ [⟨y1,y2⟩],by omega,by go_num,Lh (by exact HT1.out),Lh (by rw [List.flatMap_append];exact hG10.out.1),Lh (by rw [List.length_append,hlen.out];rfl),Lh (Ls.more hM (G.out.alloc hM _) hG10.out.2 (L.out.alloc hM G.out.wk.st _) HA.out)⟩,by simp [intOf];omega⟩
      | false =>
        rw [hw] at hcw
        have HWW:=Lh hw
        have hge:ms.getD k zWas=zWas:=by rw [hz.out hw];rfl
        rw [hge] at HT1 HOE
        obtain⟨m0,hm0⟩:∃m0,zWas=m0:=⟨_,rfl⟩
        rw [hm0] at HOE
        have HT1:=(show Hid (itF M (wasF M) (fun i=>ms.getD i zWas) (k+1) s1=((wasF M s' m0).1,ys ++ [(wasF M s' m0).2])) from by rw [← hm0];exact HT1)
        clear hw hge
        obtain⟨x,hx⟩:∃x,wr.heap.size=x:=⟨_,rfl⟩
        have hbs:=Lh (hG.out.off (Nat.le_refl _))
        have haL:=Lh (hLr.out.apart (Nat.le_refl _))
        have hnw:=Blk.new wr 52 #[.int .u64 0,.int .i64 0,.int .u64 0,.int .i64 0]
        rw [hx] at hbs haL hnw
        have HNW:=Lh hnw
        clear hnw
        go_wp2_with (first
         | (refine wpl_store_blk rfl 52 (.tmp 8) (.tmp 25) rfl x 52 #[.int .u64 0,.int .i64 0,.int .u64 0,.int .i64 0] #[.int .u64 0,.int .i64 0,.int .u64 0,.int .i64 0] rfl rfl HNW.out rfl Tryz.sizeWa rfl ?_;intro w4 hB4 hO4
            have hX:=(Bk.new hM hG.out.wk #[.int .u64 0,.int .i64 0,.int .u64 0,.int .i64 0] 52)
            have hG4:=hG.out.alloc hM (.cells #[.int .u64 0,.int .i64 0,.int .u64 0,.int .i64 0] 52)
            rw [hx] at hX
            have X4:=Lh (hX.turn hM hG4.wk.st hO4.out hB4.out)
            have G4:=Lh (hG4.only hM hX hO4.out hbs.out)
            have L4:=Lh ((hLr.out.alloc hM hG.out.wk.st (.cells #[.int .u64 0,.int .i64 0,.int .u64 0,.int .i64 0] 52)).only hM hG4.wk.st hO4.out hX.free haL.out)
            have pw:=hM.cwrite G4.out.wk.st
            rw [HWW.out] at pw
            have X:=Lh (show Bk M w x 52 #[.int .u64 (m0.id.ver:Int),.int .i64 m0.id.idx,.int .u64 (m0.id.ep:Int),.int .i64 m0.node] w4 from (by rw [← hm0];exact X4.out))
            have G:=G4
            have L:=L4
            clear hX hG4 hB4 hO4 G4 L4 X4 hm0
            have cx0:=X.out.blk.cell 0
            have cx1:=X.out.blk.cell 1
            have cx2:=X.out.blk.cell 2))
        have HR3:=Lh (show wasF M s' m0=bnd (idF M s' m0.id) fun s1 y1=>bnd (M.int s1 m0.node) fun s2 y2=>(s2,⟨y1,y2⟩) from rfl)
        have HF:=HFK
        rw [HR3.out] at HT1
        have HC:=Lh (pf_id M hM s' m0.id _ (Lh G.out.wk.st) HOE.out.id (hM.mono HF.out (by omega)))
        have HF:=Lh (f_id hM (a:=10) (hM.mono HF.out (by omega)) HOE.out.id)
        generalize idF M s' m0.id=r at *
        obtain⟨s1,y1⟩:=r
        rw [bnd_mk] at HT1
        simp only at HC HF
        refine HC.out.mono ?_
        rintro e w6 ⟨rfl,hs,hk⟩
        clear HC
        unfold idCs
        have L:=Lh (L.out.call hk)
        have X:=Lh (X.out.call hk)
        have G:=Lh (G.out.call hs hk)
        clear hs hk
        have cx0:=X.out.blk.cell 0
        have cx1:=X.out.blk.cell 1
        have cx2:=X.out.blk.cell 2
        have cx3:=X.out.blk.cell 3
        have fx:=X.out.blk.frozen
        go_wp2_with fail
        obtain⟨v1,ew⟩:∃v1,((w6.setCell ⟨x,0,none⟩ (.int .u64 (y1.ver:Int))).setCell ⟨x,1,none⟩ (.int .i64 y1.idx)).setCell ⟨x,2,none⟩ (.int .u64 (y1.ep:Int))=v1:=⟨_,rfl⟩
        have hO:=(((Only.set_ w6 x 0 (.int .u64 (y1.ver:Int))).trans (Only.set_ (w6.setCell ⟨x,0,none⟩ (.int .u64 (y1.ver:Int))) x 1 (.int .i64 y1.idx))).trans (Only.set_ ((w6.setCell ⟨x,0,none⟩ (.int .u64 (y1.ver:Int))).setCell ⟨x,1,none⟩ (.int .i64 y1.idx)) x 2 (.int .u64 (y1.ep:Int))))
        have hB:Blk (((w6.setCell ⟨x,0,none⟩ (.int .u64 (y1.ver:Int))).setCell ⟨x,1,none⟩ (.int .i64 y1.idx)).setCell ⟨x,2,none⟩ (.int .u64 (y1.ep:Int))) x 52 #[.int .u64 (y1.ver:Int),.int .i64 y1.idx,.int .u64 (y1.ep:Int),.int .i64 m0.node]:=by have:=(((X.out.blk.set_ 0 (.int .u64 (y1.ver:Int))).set_ 1 (.int .i64 y1.idx)).set_ 2 (.int .u64 (y1.ep:Int)));simpa using this
        rw [ew] at hO hB ⊢
        have L:=Lh (L.out.only hM G.out.wk.st hO X.out.free haL.out)
        have X1:=Lh (X.out.turn hM G.out.wk.st hO hB)
        have G:=Lh (G.out.only hM X.out hO hbs.out)
        have X:=X1
        clear X1 ew hO hB fx cx0 cx1 cx2 cx3
        have HC:=Lh (hM.c_int s1 m0.node _ (Lh G.out.wk.st) HOE.out.node (hM.mono HF.out (by omega)))
        have HF:=Lh (hM.f_int (s:=s1) (x:=m0.node) (a:=0) (hM.mono HF.out (by omega)) HOE.out.node)
        generalize M.int s1 m0.node=r at *
        obtain⟨s2,y2⟩:=r
        rw [bnd_mk] at HT1
        simp only at HC HF
        refine HC.out.mono ?_
        rintro e w7 ⟨rfl,hs,hk⟩
        clear HC
        have L:=Lh (L.out.call hk)
        have X:=Lh (X.out.call hk)
        have G:=Lh (G.out.call hs hk)
        clear hs hk
        have cx3:=X.out.blk.cell 3
        have fx:=X.out.blk.frozen
        obtain⟨v2,ew⟩:∃v2,w7.setCell ⟨x,3,none⟩ (.int .i64 y2)=v2:=⟨_,rfl⟩
        have hO:=(Only.set_ w7 x 3 (.int .i64 y2))
        have hB:Blk (w7.setCell ⟨x,3,none⟩ (.int .i64 y2)) x 52 #[.int .u64 (y1.ver:Int),.int .i64 y1.idx,.int .u64 (y1.ep:Int),.int .i64 y2]:=by have:=(X.out.blk.set_ 3 (.int .i64 y2));simpa using this
        rw [ew] at hO hB
        have L:=Lh (L.out.only hM G.out.wk.st hO X.out.free haL.out)
        have X1:=Lh (X.out.turn hM G.out.wk.st hO hB)
        have G:=Lh (G.out.only hM X.out hO hbs.out)
        have X:=X1
        clear X1 hO hB
        go_wp2_with (first
         | (refine wpl_load_blk rfl 52 (.tmp 8) rfl x 52 _ _ rfl X.out.blk Tryz.underlying52 rfl Tryz.sizeWa ?_)
         | (at_builtin
            refine wpl_gr hM rfl _ _ 32 _ 32 Tryz.underlying32 Tryz.infoWas rfl (by decide) (by decide) rfl G.out (by omega) [.int .u64 (y1.ver:Int),.int .i64 y1.idx,.int .u64 (y1.ep:Int),.int .i64 y2] rfl (by intro u hu;simp only [List.mem_cons,List.not_mem_nil,or_false] at hu;rcases hu with rfl | rfl | rfl | rfl <;> rfl) rfl rfl ?_
            intro v10 w10 hG10))
        refine⟨⟨k+1,s2,ys ++ [⟨y1,y2⟩],by omega,by go_num,Lh (by exact HT1.out),Lh (by rw [List.flatMap_append];exact hG10.out.1),Lh (by rw [List.length_append,hlen.out];rfl),Lh (Ls.more hM (G.out.alloc hM _) hG10.out.2 (L.out.alloc hM G.out.wk.st _) HA.out)⟩,by simp [intOf];omega⟩
  · obtain rfl:k=m:=by omega
    have HE:=Lh (HR.out.trans hT.out)
    go_wp2
    go_ret
    rw [HE.out]
    rw [← hlen.out] at hG
    exact hG.out.list
end
end Go.Proofs.YtdoneomahlfkbaaGreat
