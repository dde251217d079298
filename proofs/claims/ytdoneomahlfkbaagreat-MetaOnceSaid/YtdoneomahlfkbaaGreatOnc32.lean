/- THE REFERENCE'S P, READING OR WRITING: states. (printed by gen_paq18.py). (joined out of PaQ18 by shake.py) -/
import Derived.Test.YtdoneomahlfkbaaGreatOnc30
import Derived.Test.YtdoneomahlfkbaaGreatOnc31
set_option linter.unusedVariables false
set_option linter.unusedSimpArgs false
set_option maxRecDepth 100000
set_option maxHeartbeats 4000000
namespace Go.Proofs.YtdoneomahlfkbaaGreat
section
open Go.RowKit OctMath
variable {σ:Type}
def metF (M:Md σ) (s:σ) (x:MetT):σ×MetT:=bnd (M.int s x.k) fun s1 y1=>bnd (M.int s1 x.n) fun s2 y2=>bnd (M.int s2 x.groups) fun s3 y3=>bnd (mapF M s3 (x.mep,x.mem)) fun s4 y4=>bnd (mapF M s4 (x.nep,x.nem)) fun s5 y5=>bnd (intsF M s5 x.cut) fun s6 y6=>bnd (objsF M s6 x.objs) fun s7 y7=>bnd (ints2F M s7 x.ints) fun s8 y8=>bnd (sessF M s8 x.sess) fun s9 y9=>bnd (wassF M s9 x.wass) fun s10 y10=>bnd (intsF M s10 x.down) fun s11 y11=>bnd (M.u64 s11 x.last) fun s12 y12=>(s12,⟨y1,y2,y3,y4.1,y4.2,y5.1,y5.2,y6,y7,y8,y9,y10,y11,y12⟩)
structure MetX (M:Md σ) (lo:Nat) (m:MM) (w:World):Prop where
 map:Lx M lo 2 m.MA m.mc m.x.mem.length (mcells m.x.mem) w
 next:Lx M lo 2 m.NA m.nc m.x.nem.length (mcells m.x.nem) w
 cut:Lx M lo 1 m.CA m.cc m.x.cut.length (m.x.cut.map iv) w
 objs:Lx M lo 7 m.OA m.oc m.os.length (m.os.flatMap omCs) w
 ints:Lx M lo 9 m.IA m.ic m.is.length (m.is.flatMap imCs) w
 sess:Lx M lo 5 m.SA m.sc m.x.sess.length (m.x.sess.flatMap sesL) w
 wass:Lx M lo 4 m.WA m.wc m.x.wass.length (m.x.wass.flatMap wasL) w
 down:Lx M lo 1 m.DA m.dc m.x.down.length (m.x.down.map iv) w
 os:m.os.map (·.x)=m.x.objs
 is:m.is.map (·.x)=m.x.ints
 oss:LxL M lo (m.os.map OM.row) w
 iss:LxL M lo (m.is.map IM.row) w
def RetMt (M:Md σ) (s':σ) (y:MetT) (w:World) (e:Ending) (w':World):Prop :=
 ∃m:MM,m.x=y∧e = .returned (.agg m.cs)∧MetX M w.heap.size m w'∧M.St s' w'∧Stp M w w'
theorem pf_meta (M:Md σ) (hM:MdOk M) (s:σ) (MA:Option Addr) (mc:Nat) (NA:Option Addr) (nc:Nat) (CA:Option Addr) (cc:Nat) (OA:Option Addr) (oc:Nat) (IA:Option Addr) (ic:Nat) (SA:Option Addr) (sc:Nat) (WA:Option Addr) (wc:Nat) (DA:Option Addr) (dc:Nat) (os:List OM) (is:List IM) (x:MetT) (w:World) (hS:Hid (M.St s w)) (hKM:Hid (Ls M 2 MA x.mem.length (mcells x.mem) w)) (hKN:Hid (Ls M 2 NA x.nem.length (mcells x.nem) w)) (hKC:Hid (Ls M 1 CA x.cut.length (x.cut.map iv) w)) (hKO:Hid (Ls M 7 OA x.objs.length (os.flatMap omCs) w)) (hKI:Hid (Ls M 9 IA x.ints.length (is.flatMap imCs) w)) (hKS:Hid (Ls M 5 SA x.sess.length (x.sess.flatMap sesL) w)) (hKW:Hid (Ls M 4 WA x.wass.length (x.wass.flatMap wasL) w)) (hKD:Hid (Ls M 1 DA x.down.length (x.down.map iv) w)) (hUO:Hid (InsL M w.heap.size (os.map OM.row) w)) (hUI:Hid (InsL M w.heap.size (is.map IM.row) w)) (HOs:Hid (os.map (·.x)=x.objs)) (HIs:Hid (is.map (·.x)=x.ints)) (HO:MetOk x) (KMZ:Hid (M.write=false→x.mem=[])) (KNZ:Hid (M.write=false→x.nem=[])) (KCZ:Hid (M.write=false→x.cut=[])) (KOZ:Hid (M.write=false→os=[])) (KIZ:Hid (M.write=false→is=[])) (KSZ:Hid (M.write=false→x.sess=[])) (KWZ:Hid (M.write=false→x.wass=[])) (KDZ:Hid (M.write=false→x.down=[])) (hf:Hid (M.fit s 24189778002120)) :
 Calls Tryz.prog 74 #[.pointer (some ⟨M.g,0,none⟩),.agg #[.int .i64 x.k,.int .i64 x.n,.int .i64 x.groups,.int .u64 (x.mep:Int),.slice MA x.mem.length mc,.int .u64 (x.nep:Int),.slice NA x.nem.length nc,.slice CA x.cut.length cc,.slice OA x.objs.length oc,.slice IA x.ints.length ic,.slice SA x.sess.length sc,.slice WA x.wass.length wc,.slice DA x.down.length dc,.int .u64 (x.last:Int)]] w (RetMt M (metF M s x).1 (metF M s x).2 w):=by
 have HR:=Lh (show metF M s x=bnd (M.int s x.k) fun s1 y1=>bnd (M.int s1 x.n) fun s2 y2=>bnd (M.int s2 x.groups) fun s3 y3=>bnd (mapF M s3 (x.mep,x.mem)) fun s4 y4=>bnd (mapF M s4 (x.nep,x.nem)) fun s5 y5=>bnd (intsF M s5 x.cut) fun s6 y6=>bnd (objsF M s6 x.objs) fun s7 y7=>bnd (ints2F M s7 x.ints) fun s8 y8=>bnd (sessF M s8 x.sess) fun s9 y9=>bnd (wassF M s9 x.wass) fun s10 y10=>bnd (intsF M s10 x.down) fun s11 y11=>bnd (M.u64 s11 x.last) fun s12 y12=>(s12,⟨y1,y2,y3,y4.1,y4.2,y5.1,y5.2,y6,y7,y8,y9,y10,y11,y12⟩) from rfl)
 have HF:=Lh hf.out
 have HO:=Lh HO
 obtain⟨w0,ew0⟩:∃w0,((w.alloc (.cells #[.int .i64 x.k,.int .i64 x.n,.int .i64 x.groups,.int .u64 (x.mep:Int),.slice MA x.mem.length mc,.int .u64 (x.nep:Int),.slice NA x.nem.length nc,.slice CA x.cut.length cc,.slice OA x.objs.length oc,.slice IA x.ints.length ic,.slice SA x.sess.length sc,.slice WA x.wass.length wc,.slice DA x.down.length dc,.int .u64 (x.last:Int)] 34)).alloc (.cells #[.int .i64 0,.int .i64 0,.int .i64 0,.int .u64 0,.slice none 0 0,.int .u64 0,.slice none 0 0,.slice none 0 0,.slice none 0 0,.slice none 0 0,.slice none 0 0,.slice none 0 0,.slice none 0 0,.int .u64 0] 34))=w0:=⟨_,rfl⟩
 have hwa:=(Wk.start hS.out).alloc hM (.cells #[.int .i64 x.k,.int .i64 x.n,.int .i64 x.groups,.int .u64 (x.mep:Int),.slice MA x.mem.length mc,.int .u64 (x.nep:Int),.slice NA x.nem.length nc,.slice CA x.cut.length cc,.slice OA x.objs.length oc,.slice IA x.ints.length ic,.slice SA x.sess.length sc,.slice WA x.wass.length wc,.slice DA x.down.length dc,.int .u64 (x.last:Int)] 34)
 have hx:=(Bk.new hM (Wk.start hS.out) #[.int .i64 x.k,.int .i64 x.n,.int .i64 x.groups,.int .u64 (x.mep:Int),.slice MA x.mem.length mc,.int .u64 (x.nep:Int),.slice NA x.nem.length nc,.slice CA x.cut.length cc,.slice OA x.objs.length oc,.slice IA x.ints.length ic,.slice SA x.sess.length sc,.slice WA x.wass.length wc,.slice DA x.down.length dc,.int .u64 (x.last:Int)] 34).alloc hM hwa.st (.cells #[.int .i64 0,.int .i64 0,.int .i64 0,.int .u64 0,.slice none 0 0,.int .u64 0,.slice none 0 0,.slice none 0 0,.slice none 0 0,.slice none 0 0,.slice none 0 0,.slice none 0 0,.slice none 0 0,.int .u64 0] 34)
 have hr:Bk M w (w.heap.size+1) 34 #[.int .i64 0,.int .i64 0,.int .i64 0,.int .u64 0,.slice none 0 0,.int .u64 0,.slice none 0 0,.slice none 0 0,.slice none 0 0,.slice none 0 0,.slice none 0 0,.slice none 0 0,.slice none 0 0,.int .u64 0] ((w.alloc (.cells #[.int .i64 x.k,.int .i64 x.n,.int .i64 x.groups,.int .u64 (x.mep:Int),.slice MA x.mem.length mc,.int .u64 (x.nep:Int),.slice NA x.nem.length nc,.slice CA x.cut.length cc,.slice OA x.objs.length oc,.slice IA x.ints.length ic,.slice SA x.sess.length sc,.slice WA x.wass.length wc,.slice DA x.down.length dc,.int .u64 (x.last:Int)] 34)).alloc (.cells #[.int .i64 0,.int .i64 0,.int .i64 0,.int .u64 0,.slice none 0 0,.int .u64 0,.slice none 0 0,.slice none 0 0,.slice none 0 0,.slice none 0 0,.slice none 0 0,.slice none 0 0,.slice none 0 0,.int .u64 0] 34)):=by have:=Bk.new hM hwa #[.int .i64 0,.int .i64 0,.int .i64 0,.int .u64 0,.slice none 0 0,.int .u64 0,.slice none 0 0,.slice none 0 0,.slice none 0 0,.slice none 0 0,.slice none 0 0,.slice none 0 0,.slice none 0 0,.int .u64 0] 34;simpa using this
 have hw:=hwa.alloc hM (.cells #[.int .i64 0,.int .i64 0,.int .i64 0,.int .u64 0,.slice none 0 0,.int .u64 0,.slice none 0 0,.slice none 0 0,.slice none 0 0,.slice none 0 0,.slice none 0 0,.slice none 0 0,.slice none 0 0,.int .u64 0] 34)
 have hKM1:=(hKM.out.alloc hM hS.out (.cells #[.int .i64 x.k,.int .i64 x.n,.int .i64 x.groups,.int .u64 (x.mep:Int),.slice MA x.mem.length mc,.int .u64 (x.nep:Int),.slice NA x.nem.length nc,.slice CA x.cut.length cc,.slice OA x.objs.length oc,.slice IA x.ints.length ic,.slice SA x.sess.length sc,.slice WA x.wass.length wc,.slice DA x.down.length dc,.int .u64 (x.last:Int)] 34)).alloc hM hwa.st (.cells #[.int .i64 0,.int .i64 0,.int .i64 0,.int .u64 0,.slice none 0 0,.int .u64 0,.slice none 0 0,.slice none 0 0,.slice none 0 0,.slice none 0 0,.slice none 0 0,.slice none 0 0,.slice none 0 0,.int .u64 0] 34)
 have aKM:=Lh (hKM.out.apart (Nat.le_refl _))
 have bKM:=Lh (hKM.out.apart (Nat.le_succ _))
 have hKN1:=(hKN.out.alloc hM hS.out (.cells #[.int .i64 x.k,.int .i64 x.n,.int .i64 x.groups,.int .u64 (x.mep:Int),.slice MA x.mem.length mc,.int .u64 (x.nep:Int),.slice NA x.nem.length nc,.slice CA x.cut.length cc,.slice OA x.objs.length oc,.slice IA x.ints.length ic,.slice SA x.sess.length sc,.slice WA x.wass.length wc,.slice DA x.down.length dc,.int .u64 (x.last:Int)] 34)).alloc hM hwa.st (.cells #[.int .i64 0,.int .i64 0,.int .i64 0,.int .u64 0,.slice none 0 0,.int .u64 0,.slice none 0 0,.slice none 0 0,.slice none 0 0,.slice none 0 0,.slice none 0 0,.slice none 0 0,.slice none 0 0,.int .u64 0] 34)
 have aKN:=Lh (hKN.out.apart (Nat.le_refl _))
 have bKN:=Lh (hKN.out.apart (Nat.le_succ _))
 have hKC1:=(hKC.out.alloc hM hS.out (.cells #[.int .i64 x.k,.int .i64 x.n,.int .i64 x.groups,.int .u64 (x.mep:Int),.slice MA x.mem.length mc,.int .u64 (x.nep:Int),.slice NA x.nem.length nc,.slice CA x.cut.length cc,.slice OA x.objs.length oc,.slice IA x.ints.length ic,.slice SA x.sess.length sc,.slice WA x.wass.length wc,.slice DA x.down.length dc,.int .u64 (x.last:Int)] 34)).alloc hM hwa.st (.cells #[.int .i64 0,.int .i64 0,.int .i64 0,.int .u64 0,.slice none 0 0,.int .u64 0,.slice none 0 0,.slice none 0 0,.slice none 0 0,.slice none 0 0,.slice none 0 0,.slice none 0 0,.slice none 0 0,.int .u64 0] 34)
 have aKC:=Lh (hKC.out.apart (Nat.le_refl _))
 have bKC:=Lh (hKC.out.apart (Nat.le_succ _))
 have hKO1:=(hKO.out.alloc hM hS.out (.cells #[.int .i64 x.k,.int .i64 x.n,.int .i64 x.groups,.int .u64 (x.mep:Int),.slice MA x.mem.length mc,.int .u64 (x.nep:Int),.slice NA x.nem.length nc,.slice CA x.cut.length cc,.slice OA x.objs.length oc,.slice IA x.ints.length ic,.slice SA x.sess.length sc,.slice WA x.wass.length wc,.slice DA x.down.length dc,.int .u64 (x.last:Int)] 34)).alloc hM hwa.st (.cells #[.int .i64 0,.int .i64 0,.int .i64 0,.int .u64 0,.slice none 0 0,.int .u64 0,.slice none 0 0,.slice none 0 0,.slice none 0 0,.slice none 0 0,.slice none 0 0,.slice none 0 0,.slice none 0 0,.int .u64 0] 34)
 have aKO:=Lh (hKO.out.apart (Nat.le_refl _))
 have bKO:=Lh (hKO.out.apart (Nat.le_succ _))
 have hKI1:=(hKI.out.alloc hM hS.out (.cells #[.int .i64 x.k,.int .i64 x.n,.int .i64 x.groups,.int .u64 (x.mep:Int),.slice MA x.mem.length mc,.int .u64 (x.nep:Int),.slice NA x.nem.length nc,.slice CA x.cut.length cc,.slice OA x.objs.length oc,.slice IA x.ints.length ic,.slice SA x.sess.length sc,.slice WA x.wass.length wc,.slice DA x.down.length dc,.int .u64 (x.last:Int)] 34)).alloc hM hwa.st (.cells #[.int .i64 0,.int .i64 0,.int .i64 0,.int .u64 0,.slice none 0 0,.int .u64 0,.slice none 0 0,.slice none 0 0,.slice none 0 0,.slice none 0 0,.slice none 0 0,.slice none 0 0,.slice none 0 0,.int .u64 0] 34)
 have aKI:=Lh (hKI.out.apart (Nat.le_refl _))
 have bKI:=Lh (hKI.out.apart (Nat.le_succ _))
 have hKS1:=(hKS.out.alloc hM hS.out (.cells #[.int .i64 x.k,.int .i64 x.n,.int .i64 x.groups,.int .u64 (x.mep:Int),.slice MA x.mem.length mc,.int .u64 (x.nep:Int),.slice NA x.nem.length nc,.slice CA x.cut.length cc,.slice OA x.objs.length oc,.slice IA x.ints.length ic,.slice SA x.sess.length sc,.slice WA x.wass.length wc,.slice DA x.down.length dc,.int .u64 (x.last:Int)] 34)).alloc hM hwa.st (.cells #[.int .i64 0,.int .i64 0,.int .i64 0,.int .u64 0,.slice none 0 0,.int .u64 0,.slice none 0 0,.slice none 0 0,.slice none 0 0,.slice none 0 0,.slice none 0 0,.slice none 0 0,.slice none 0 0,.int .u64 0] 34)
 have aKS:=Lh (hKS.out.apart (Nat.le_refl _))
 have bKS:=Lh (hKS.out.apart (Nat.le_succ _))
 have hKW1:=(hKW.out.alloc hM hS.out (.cells #[.int .i64 x.k,.int .i64 x.n,.int .i64 x.groups,.int .u64 (x.mep:Int),.slice MA x.mem.length mc,.int .u64 (x.nep:Int),.slice NA x.nem.length nc,.slice CA x.cut.length cc,.slice OA x.objs.length oc,.slice IA x.ints.length ic,.slice SA x.sess.length sc,.slice WA x.wass.length wc,.slice DA x.down.length dc,.int .u64 (x.last:Int)] 34)).alloc hM hwa.st (.cells #[.int .i64 0,.int .i64 0,.int .i64 0,.int .u64 0,.slice none 0 0,.int .u64 0,.slice none 0 0,.slice none 0 0,.slice none 0 0,.slice none 0 0,.slice none 0 0,.slice none 0 0,.slice none 0 0,.int .u64 0] 34)
 have aKW:=Lh (hKW.out.apart (Nat.le_refl _))
 have bKW:=Lh (hKW.out.apart (Nat.le_succ _))
 have hKD1:=(hKD.out.alloc hM hS.out (.cells #[.int .i64 x.k,.int .i64 x.n,.int .i64 x.groups,.int .u64 (x.mep:Int),.slice MA x.mem.length mc,.int .u64 (x.nep:Int),.slice NA x.nem.length nc,.slice CA x.cut.length cc,.slice OA x.objs.length oc,.slice IA x.ints.length ic,.slice SA x.sess.length sc,.slice WA x.wass.length wc,.slice DA x.down.length dc,.int .u64 (x.last:Int)] 34)).alloc hM hwa.st (.cells #[.int .i64 0,.int .i64 0,.int .i64 0,.int .u64 0,.slice none 0 0,.int .u64 0,.slice none 0 0,.slice none 0 0,.slice none 0 0,.slice none 0 0,.slice none 0 0,.slice none 0 0,.slice none 0 0,.int .u64 0] 34)
 have aKD:=Lh (hKD.out.apart (Nat.le_refl _))
 have bKD:=Lh (hKD.out.apart (Nat.le_succ _))
 have hUO1:=(hUO.out.alloc hM hS.out (.cells #[.int .i64 x.k,.int .i64 x.n,.int .i64 x.groups,.int .u64 (x.mep:Int),.slice MA x.mem.length mc,.int .u64 (x.nep:Int),.slice NA x.nem.length nc,.slice CA x.cut.length cc,.slice OA x.objs.length oc,.slice IA x.ints.length ic,.slice SA x.sess.length sc,.slice WA x.wass.length wc,.slice DA x.down.length dc,.int .u64 (x.last:Int)] 34)).alloc hM hwa.st (.cells #[.int .i64 0,.int .i64 0,.int .i64 0,.int .u64 0,.slice none 0 0,.int .u64 0,.slice none 0 0,.slice none 0 0,.slice none 0 0,.slice none 0 0,.slice none 0 0,.slice none 0 0,.slice none 0 0,.int .u64 0] 34)
 have aUO:=Lh (hUO.out.apart (Nat.le_refl _))
 have bUO:=Lh (hUO.out.apart (Nat.le_succ _))
 have hUI1:=(hUI.out.alloc hM hS.out (.cells #[.int .i64 x.k,.int .i64 x.n,.int .i64 x.groups,.int .u64 (x.mep:Int),.slice MA x.mem.length mc,.int .u64 (x.nep:Int),.slice NA x.nem.length nc,.slice CA x.cut.length cc,.slice OA x.objs.length oc,.slice IA x.ints.length ic,.slice SA x.sess.length sc,.slice WA x.wass.length wc,.slice DA x.down.length dc,.int .u64 (x.last:Int)] 34)).alloc hM hwa.st (.cells #[.int .i64 0,.int .i64 0,.int .i64 0,.int .u64 0,.slice none 0 0,.int .u64 0,.slice none 0 0,.slice none 0 0,.slice none 0 0,.slice none 0 0,.slice none 0 0,.slice none 0 0,.slice none 0 0,.int .u64 0] 34)
 have aUI:=Lh (hUI.out.apart (Nat.le_refl _))
 have bUI:=Lh (hUI.out.apart (Nat.le_succ _))
 rw [ew0] at hx hr hw hKM1 hKN1 hKC1 hKO1 hKI1 hKS1 hKW1 hKD1 hUO1 hUI1
 have HX:=Lh hx
 have HB:=Lh hr
 have HW:=Lh hw
 have KM:=Lh hKM1
 have KN:=Lh hKN1
 have KC:=Lh hKC1
 have KO:=Lh hKO1
 have KI:=Lh hKI1
 have KS:=Lh hKS1
 have KW:=Lh hKW1
 have KD:=Lh hKD1
 have UO:=Lh hUO1
 have UI:=Lh hUI1
 clear hx hr hw hwa hKM1 hKN1 hKC1 hKO1 hKI1 hKS1 hKW1 hKD1 hUO1 hUI1
 have cx0:=HX.out.blk.cell 0
 go_enter Tryz.func74,Tryz.ntmps74
 go_wp2_with fail
 clear ew0 cx0
 have HC:=Lh (hM.c_int s x.k _ (Lh HW.out.st) HO.out.k (hM.mono HF.out (by omega)))
 have HF:=Lh (hM.f_int (s:=s) (x:=x.k) (a:=24189778002110) (hM.mono HF.out (by omega)) HO.out.k)
 generalize M.int s x.k=r at *
 obtain⟨s1,y1⟩:=r
 rw [bnd_mk] at HR
 simp only at HC HF
 refine HC.out.mono ?_
 rintro e w1 ⟨rfl,hs,hk⟩
 clear HC
 have KM:=Lh (KM.out.call hk)
 have KN:=Lh (KN.out.call hk)
 have KC:=Lh (KC.out.call hk)
 have KO:=Lh (KO.out.call hk)
 have KI:=Lh (KI.out.call hk)
 have KS:=Lh (KS.out.call hk)
 have KW:=Lh (KW.out.call hk)
 have KD:=Lh (KD.out.call hk)
 have UO:=Lh (UO.out.call hk)
 have UI:=Lh (UI.out.call hk)
 have HX:=Lh (HX.out.call hk)
 have HB:=Lh (HB.out.call hk)
 have HW:=Lh (HW.out.call hs hk)
 clear hs hk
 have cx0:=HX.out.blk.cell 0
 have fx:=HX.out.blk.frozen
 have cx1:=HX.out.blk.cell 1
 go_wp2_with fail
 obtain⟨v1,ew⟩:∃v1,w1.setCell ⟨w.heap.size,0,none⟩ (.int .i64 y1)=v1:=⟨_,rfl⟩
 have hO:=(Only.set_ w1 w.heap.size 0 (.int .i64 y1))
 have hB:Blk (w1.setCell ⟨w.heap.size,0,none⟩ (.int .i64 y1)) w.heap.size 34 #[.int .i64 y1,.int .i64 x.n,.int .i64 x.groups,.int .u64 (x.mep:Int),.slice MA x.mem.length mc,.int .u64 (x.nep:Int),.slice NA x.nem.length nc,.slice CA x.cut.length cc,.slice OA x.objs.length oc,.slice IA x.ints.length ic,.slice SA x.sess.length sc,.slice WA x.wass.length wc,.slice DA x.down.length dc,.int .u64 (x.last:Int)]:=by have:=(HX.out.blk.set_ 0 (.int .i64 y1));simpa using this
 rw [ew] at hO hB ⊢
 have KM:=Lh (KM.out.only hM HW.out.st hO HX.out.free aKM.out)
 have KN:=Lh (KN.out.only hM HW.out.st hO HX.out.free aKN.out)
 have KC:=Lh (KC.out.only hM HW.out.st hO HX.out.free aKC.out)
 have KO:=Lh (KO.out.only hM HW.out.st hO HX.out.free aKO.out)
 have KI:=Lh (KI.out.only hM HW.out.st hO HX.out.free aKI.out)
 have KS:=Lh (KS.out.only hM HW.out.st hO HX.out.free aKS.out)
 have KW:=Lh (KW.out.only hM HW.out.st hO HX.out.free aKW.out)
 have KD:=Lh (KD.out.only hM HW.out.st hO HX.out.free aKD.out)
 have UO:=Lh (UO.out.only hM HW.out.st hO HX.out.free aUO.out)
 have UI:=Lh (UI.out.only hM HW.out.st hO HX.out.free aUI.out)
 have HB:=Lh (HB.out.only hM HW.out.st hO HX.out.free (by omega))
 have HX1:=Lh (HX.out.turn hM HW.out.st hO hB)
 have HW:=Lh (HW.out.only hM HX.out hO)
 have HX:=HX1
 clear HX1 ew hO hB fx cx0 cx1
 have HC:=Lh (hM.c_int s1 x.n _ (Lh HW.out.st) HO.out.n (hM.mono HF.out (by omega)))
 have HF:=Lh (hM.f_int (s:=s1) (x:=x.n) (a:=24189778002100) (hM.mono HF.out (by omega)) HO.out.n)
 generalize M.int s1 x.n=r at *
 obtain⟨s2,y2⟩:=r
 rw [bnd_mk] at HR
 simp only at HC HF
 refine HC.out.mono ?_
 rintro e w2 ⟨rfl,hs,hk⟩
 clear HC
 have KM:=Lh (KM.out.call hk)
 have KN:=Lh (KN.out.call hk)
 have KC:=Lh (KC.out.call hk)
 have KO:=Lh (KO.out.call hk)
 have KI:=Lh (KI.out.call hk)
 have KS:=Lh (KS.out.call hk)
 have KW:=Lh (KW.out.call hk)
 have KD:=Lh (KD.out.call hk)
 have UO:=Lh (UO.out.call hk)
 have UI:=Lh (UI.out.call hk)
 have HX:=Lh (HX.out.call hk)
 have HB:=Lh (HB.out.call hk)
 have HW:=Lh (HW.out.call hs hk)
 clear hs hk
 have cx1:=HX.out.blk.cell 1
 have fx:=HX.out.blk.frozen
 have cx2:=HX.out.blk.cell 2
 go_wp2_with fail
 obtain⟨v2,ew⟩:∃v2,w2.setCell ⟨w.heap.size,1,none⟩ (.int .i64 y2)=v2:=⟨_,rfl⟩
 have hO:=(Only.set_ w2 w.heap.size 1 (.int .i64 y2))
 have hB:Blk (w2.setCell ⟨w.heap.size,1,none⟩ (.int .i64 y2)) w.heap.size 34 #[.int .i64 y1,.int .i64 y2,.int .i64 x.groups,.int .u64 (x.mep:Int),.slice MA x.mem.length mc,.int .u64 (x.nep:Int),.slice NA x.nem.length nc,.slice CA x.cut.length cc,.slice OA x.objs.length oc,.slice IA x.ints.length ic,.slice SA x.sess.length sc,.slice WA x.wass.length wc,.slice DA x.down.length dc,.int .u64 (x.last:Int)]:=by have:=(HX.out.blk.set_ 1 (.int .i64 y2));simpa using this
 rw [ew] at hO hB ⊢
 have KM:=Lh (KM.out.only hM HW.out.st hO HX.out.free aKM.out)
 have KN:=Lh (KN.out.only hM HW.out.st hO HX.out.free aKN.out)
 have KC:=Lh (KC.out.only hM HW.out.st hO HX.out.free aKC.out)
 have KO:=Lh (KO.out.only hM HW.out.st hO HX.out.free aKO.out)
 have KI:=Lh (KI.out.only hM HW.out.st hO HX.out.free aKI.out)
 have KS:=Lh (KS.out.only hM HW.out.st hO HX.out.free aKS.out)
 have KW:=Lh (KW.out.only hM HW.out.st hO HX.out.free aKW.out)
 have KD:=Lh (KD.out.only hM HW.out.st hO HX.out.free aKD.out)
 have UO:=Lh (UO.out.only hM HW.out.st hO HX.out.free aUO.out)
 have UI:=Lh (UI.out.only hM HW.out.st hO HX.out.free aUI.out)
 have HB:=Lh (HB.out.only hM HW.out.st hO HX.out.free (by omega))
 have HX1:=Lh (HX.out.turn hM HW.out.st hO hB)
 have HW:=Lh (HW.out.only hM HX.out hO)
 have HX:=HX1
 clear HX1 ew hO hB fx cx1 cx2
 have HC:=Lh (hM.c_int s2 x.groups _ (Lh HW.out.st) HO.out.groups (hM.mono HF.out (by omega)))
 have HF:=Lh (hM.f_int (s:=s2) (x:=x.groups) (a:=24189778002090) (hM.mono HF.out (by omega)) HO.out.groups)
 generalize M.int s2 x.groups=r at *
 obtain⟨s3,y3⟩:=r
 rw [bnd_mk] at HR
 simp only at HC HF
 refine HC.out.mono ?_
 rintro e w3 ⟨rfl,hs,hk⟩
 clear HC
 have KM:=Lh (KM.out.call hk)
 have KN:=Lh (KN.out.call hk)
 have KC:=Lh (KC.out.call hk)
 have KO:=Lh (KO.out.call hk)
 have KI:=Lh (KI.out.call hk)
 have KS:=Lh (KS.out.call hk)
 have KW:=Lh (KW.out.call hk)
 have KD:=Lh (KD.out.call hk)
 have UO:=Lh (UO.out.call hk)
 have UI:=Lh (UI.out.call hk)
 have HX:=Lh (HX.out.call hk)
 have HB:=Lh (HB.out.call hk)
 have HW:=Lh (HW.out.call hs hk)
 clear hs hk
 have cx2:=HX.out.blk.cell 2
 have fx:=HX.out.blk.frozen
 have cx3:=HX.out.blk.cell 3
 have cx4:=HX.out.blk.cell 4
 go_wp2_with fail
 obtain⟨v3,ew⟩:∃v3,w3.setCell ⟨w.heap.size,2,none⟩ (.int .i64 y3)=v3:=⟨_,rfl⟩
 have hO:=(Only.set_ w3 w.heap.size 2 (.int .i64 y3))
 have hB:Blk (w3.setCell ⟨w.heap.size,2,none⟩ (.int .i64 y3)) w.heap.size 34 #[.int .i64 y1,.int .i64 y2,.int .i64 y3,.int .u64 (x.mep:Int),.slice MA x.mem.length mc,.int .u64 (x.nep:Int),.slice NA x.nem.length nc,.slice CA x.cut.length cc,.slice OA x.objs.length oc,.slice IA x.ints.length ic,.slice SA x.sess.length sc,.slice WA x.wass.length wc,.slice DA x.down.length dc,.int .u64 (x.last:Int)]:=by have:=(HX.out.blk.set_ 2 (.int .i64 y3));simpa using this
 rw [ew] at hO hB ⊢
 have KM:=Lh (KM.out.only hM HW.out.st hO HX.out.free aKM.out)
 have KN:=Lh (KN.out.only hM HW.out.st hO HX.out.free aKN.out)
 have KC:=Lh (KC.out.only hM HW.out.st hO HX.out.free aKC.out)
 have KO:=Lh (KO.out.only hM HW.out.st hO HX.out.free aKO.out)
 have KI:=Lh (KI.out.only hM HW.out.st hO HX.out.free aKI.out)
 have KS:=Lh (KS.out.only hM HW.out.st hO HX.out.free aKS.out)
 have KW:=Lh (KW.out.only hM HW.out.st hO HX.out.free aKW.out)
 have KD:=Lh (KD.out.only hM HW.out.st hO HX.out.free aKD.out)
 have UO:=Lh (UO.out.only hM HW.out.st hO HX.out.free aUO.out)
 have UI:=Lh (UI.out.only hM HW.out.st hO HX.out.free aUI.out)
 have HB:=Lh (HB.out.only hM HW.out.st hO HX.out.free (by omega))
 have HX1:=Lh (HX.out.turn hM HW.out.st hO hB)
 have HW:=Lh (HW.out.only hM HX.out hO)
 have HX:=HX1
 clear HX1 ew hO hB fx cx2 cx3 cx4
 have HC:=Lh (pf_map M hM s3 MA mc (x.mep,x.mem) _ (Lh HW.out.st) (Lh KM.out) HO.out.map KMZ (Lh (hM.mono HF.out (by omega))))
 have HF:=Lh (f_map hM (x:=(x.mep,x.mem)) HO.out.map (a:=24189757030540) (hM.mono HF.out (by omega)))
 generalize mapF M s3 (x.mep,x.mem)=r at *
 obtain⟨s4,y4⟩:=r
 rw [bnd_mk] at HR
 simp only at HC HF
 refine HC.out.mono ?_
 rintro e w4 ⟨A4,c4,rfl,l0,hs,hk⟩
 clear HC
 have KM:=Lh (KM.out.call hk)
 have KN:=Lh (KN.out.call hk)
 have KC:=Lh (KC.out.call hk)
 have KO:=Lh (KO.out.call hk)
 have KI:=Lh (KI.out.call hk)
 have KS:=Lh (KS.out.call hk)
 have KW:=Lh (KW.out.call hk)
 have KD:=Lh (KD.out.call hk)
 have UO:=Lh (UO.out.call hk)
 have UI:=Lh (UI.out.call hk)
 have L40:=Lh (l0.mono HB.out.free.lt)
 clear l0
 have HX:=Lh (HX.out.call hk)
 have HB:=Lh (HB.out.call hk)
 have HW:=Lh (HW.out.call hs hk)
 clear hs hk
 have cx3:=HX.out.blk.cell 3
 have cx4:=HX.out.blk.cell 4
 have fx:=HX.out.blk.frozen
 have cx5:=HX.out.blk.cell 5
 have cx6:=HX.out.blk.cell 6
 go_wp2_with fail
 obtain⟨v4,ew⟩:∃v4,(w4.setCell ⟨w.heap.size,3,none⟩ (.int .u64 (y4.1:Int))).setCell ⟨w.heap.size,4,none⟩ (.slice A4 y4.2.length c4)=v4:=⟨_,rfl⟩
 have hO:=((Only.set_ w4 w.heap.size 3 (.int .u64 (y4.1:Int))).trans (Only.set_ (w4.setCell ⟨w.heap.size,3,none⟩ (.int .u64 (y4.1:Int))) w.heap.size 4 (.slice A4 y4.2.length c4)))
 have hB:Blk ((w4.setCell ⟨w.heap.size,3,none⟩ (.int .u64 (y4.1:Int))).setCell ⟨w.heap.size,4,none⟩ (.slice A4 y4.2.length c4)) w.heap.size 34 #[.int .i64 y1,.int .i64 y2,.int .i64 y3,.int .u64 (y4.1:Int),.slice A4 y4.2.length c4,.int .u64 (x.nep:Int),.slice NA x.nem.length nc,.slice CA x.cut.length cc,.slice OA x.objs.length oc,.slice IA x.ints.length ic,.slice SA x.sess.length sc,.slice WA x.wass.length wc,.slice DA x.down.length dc,.int .u64 (x.last:Int)]:=by have:=((HX.out.blk.set_ 3 (.int .u64 (y4.1:Int))).set_ 4 (.slice A4 y4.2.length c4));simpa using this
 rw [ew] at hO hB ⊢
 have KM:=Lh (KM.out.only hM HW.out.st hO HX.out.free aKM.out)
 have KN:=Lh (KN.out.only hM HW.out.st hO HX.out.free aKN.out)
 have KC:=Lh (KC.out.only hM HW.out.st hO HX.out.free aKC.out)
 have KO:=Lh (KO.out.only hM HW.out.st hO HX.out.free aKO.out)
 have KI:=Lh (KI.out.only hM HW.out.st hO HX.out.free aKI.out)
 have KS:=Lh (KS.out.only hM HW.out.st hO HX.out.free aKS.out)
 have KW:=Lh (KW.out.only hM HW.out.st hO HX.out.free aKW.out)
 have KD:=Lh (KD.out.only hM HW.out.st hO HX.out.free aKD.out)
 have UO:=Lh (UO.out.only hM HW.out.st hO HX.out.free aUO.out)
 have UI:=Lh (UI.out.only hM HW.out.st hO HX.out.free aUI.out)
 have L40:=Lh (L40.out.only hM HW.out.st hO HX.out.free (by omega))
 have HB:=Lh (HB.out.only hM HW.out.st hO HX.out.free (by omega))
 have HX1:=Lh (HX.out.turn hM HW.out.st hO hB)
 have HW:=Lh (HW.out.only hM HX.out hO)
 have HX:=HX1
 clear HX1 ew hO hB fx cx3 cx4 cx5 cx6
 have HC:=Lh (pf_map M hM s4 NA nc (x.nep,x.nem) _ (Lh HW.out.st) (Lh KN.out) HO.out.next KNZ (Lh (hM.mono HF.out (by omega))))
 have HF:=Lh (f_map hM (x:=(x.nep,x.nem)) HO.out.next (a:=24189736058990) (hM.mono HF.out (by omega)))
 generalize mapF M s4 (x.nep,x.nem)=r at *
 obtain⟨s5,y5⟩:=r
 rw [bnd_mk] at HR
 simp only at HC HF
 refine HC.out.mono ?_
 rintro e w5 ⟨A5,c5,rfl,l0,hs,hk⟩
 clear HC
 have KM:=Lh (KM.out.call hk)
 have KN:=Lh (KN.out.call hk)
 have KC:=Lh (KC.out.call hk)
 have KO:=Lh (KO.out.call hk)
 have KI:=Lh (KI.out.call hk)
 have KS:=Lh (KS.out.call hk)
 have KW:=Lh (KW.out.call hk)
 have KD:=Lh (KD.out.call hk)
 have UO:=Lh (UO.out.call hk)
 have UI:=Lh (UI.out.call hk)
 have L40:=Lh (L40.out.call hk)
 have L50:=Lh (l0.mono HB.out.free.lt)
 clear l0
 have HX:=Lh (HX.out.call hk)
 have HB:=Lh (HB.out.call hk)
 have HW:=Lh (HW.out.call hs hk)
 clear hs hk
 have cx5:=HX.out.blk.cell 5
 have cx6:=HX.out.blk.cell 6
 have fx:=HX.out.blk.frozen
 have cx7:=HX.out.blk.cell 7
 go_wp2_with fail
 obtain⟨v5,ew⟩:∃v5,(w5.setCell ⟨w.heap.size,5,none⟩ (.int .u64 (y5.1:Int))).setCell ⟨w.heap.size,6,none⟩ (.slice A5 y5.2.length c5)=v5:=⟨_,rfl⟩
 have hO:=((Only.set_ w5 w.heap.size 5 (.int .u64 (y5.1:Int))).trans (Only.set_ (w5.setCell ⟨w.heap.size,5,none⟩ (.int .u64 (y5.1:Int))) w.heap.size 6 (.slice A5 y5.2.length c5)))
 have hB:Blk ((w5.setCell ⟨w.heap.size,5,none⟩ (.int .u64 (y5.1:Int))).setCell ⟨w.heap.size,6,none⟩ (.slice A5 y5.2.length c5)) w.heap.size 34 #[.int .i64 y1,.int .i64 y2,.int .i64 y3,.int .u64 (y4.1:Int),.slice A4 y4.2.length c4,.int .u64 (y5.1:Int),.slice A5 y5.2.length c5,.slice CA x.cut.length cc,.slice OA x.objs.length oc,.slice IA x.ints.length ic,.slice SA x.sess.length sc,.slice WA x.wass.length wc,.slice DA x.down.length dc,.int .u64 (x.last:Int)]:=by have:=((HX.out.blk.set_ 5 (.int .u64 (y5.1:Int))).set_ 6 (.slice A5 y5.2.length c5));simpa using this
 rw [ew] at hO hB ⊢
 have KM:=Lh (KM.out.only hM HW.out.st hO HX.out.free aKM.out)
 have KN:=Lh (KN.out.only hM HW.out.st hO HX.out.free aKN.out)
 have KC:=Lh (KC.out.only hM HW.out.st hO HX.out.free aKC.out)
 have KO:=Lh (KO.out.only hM HW.out.st hO HX.out.free aKO.out)
 have KI:=Lh (KI.out.only hM HW.out.st hO HX.out.free aKI.out)
 have KS:=Lh (KS.out.only hM HW.out.st hO HX.out.free aKS.out)
 have KW:=Lh (KW.out.only hM HW.out.st hO HX.out.free aKW.out)
 have KD:=Lh (KD.out.only hM HW.out.st hO HX.out.free aKD.out)
 have UO:=Lh (UO.out.only hM HW.out.st hO HX.out.free aUO.out)
 have UI:=Lh (UI.out.only hM HW.out.st hO HX.out.free aUI.out)
 have L40:=Lh (L40.out.only hM HW.out.st hO HX.out.free (by omega))
 have L50:=Lh (L50.out.only hM HW.out.st hO HX.out.free (by omega))
 have HB:=Lh (HB.out.only hM HW.out.st hO HX.out.free (by omega))
 have HX1:=Lh (HX.out.turn hM HW.out.st hO hB)
 have HW:=Lh (HW.out.only hM HX.out hO)
 have HX:=HX1
 clear HX1 ew hO hB fx cx5 cx6 cx7
 have HC:=Lh (pf_ints M hM s5 CA x.cut.length cc x.cut _ (Lh HW.out.st) (Lh KC.out) (Lh rfl) (HO.out.cut).2 (Lh (HO.out.cut).1) KCZ (Lh (hM.mono HF.out (by omega))))
 have HF:=Lh (f_ints hM (HO.out.cut).2 (getD_I64 (HO.out.cut).1) (a:=24189725573200) (hM.mono HF.out (by omega)))
 generalize intsF M s5 x.cut=r at *
 obtain⟨s6,y6⟩:=r
 rw [bnd_mk] at HR
 simp only at HC HF
 refine HC.out.mono ?_
 rintro e w6 ⟨A6,c6,rfl,l0,hs,hk⟩
 clear HC
 have KM:=Lh (KM.out.call hk)
 have KN:=Lh (KN.out.call hk)
 have KC:=Lh (KC.out.call hk)
 have KO:=Lh (KO.out.call hk)
 have KI:=Lh (KI.out.call hk)
 have KS:=Lh (KS.out.call hk)
 have KW:=Lh (KW.out.call hk)
 have KD:=Lh (KD.out.call hk)
 have UO:=Lh (UO.out.call hk)
 have UI:=Lh (UI.out.call hk)
 have L40:=Lh (L40.out.call hk)
 have L50:=Lh (L50.out.call hk)
 have L60:=Lh (l0.mono HB.out.free.lt)
 clear l0
 have HX:=Lh (HX.out.call hk)
 have HB:=Lh (HB.out.call hk)
 have HW:=Lh (HW.out.call hs hk)
 clear hs hk
 have cx7:=HX.out.blk.cell 7
 have fx:=HX.out.blk.frozen
 have cx8:=HX.out.blk.cell 8
 go_wp2_with fail
 obtain⟨v6,ew⟩:∃v6,w6.setCell ⟨w.heap.size,7,none⟩ (.slice A6 y6.length c6)=v6:=⟨_,rfl⟩
 have hO:=(Only.set_ w6 w.heap.size 7 (.slice A6 y6.length c6))
 have hB:Blk (w6.setCell ⟨w.heap.size,7,none⟩ (.slice A6 y6.length c6)) w.heap.size 34 #[.int .i64 y1,.int .i64 y2,.int .i64 y3,.int .u64 (y4.1:Int),.slice A4 y4.2.length c4,.int .u64 (y5.1:Int),.slice A5 y5.2.length c5,.slice A6 y6.length c6,.slice OA x.objs.length oc,.slice IA x.ints.length ic,.slice SA x.sess.length sc,.slice WA x.wass.length wc,.slice DA x.down.length dc,.int .u64 (x.last:Int)]:=by have:=(HX.out.blk.set_ 7 (.slice A6 y6.length c6));simpa using this
 rw [ew] at hO hB ⊢
 have KM:=Lh (KM.out.only hM HW.out.st hO HX.out.free aKM.out)
 have KN:=Lh (KN.out.only hM HW.out.st hO HX.out.free aKN.out)
 have KC:=Lh (KC.out.only hM HW.out.st hO HX.out.free aKC.out)
 have KO:=Lh (KO.out.only hM HW.out.st hO HX.out.free aKO.out)
 have KI:=Lh (KI.out.only hM HW.out.st hO HX.out.free aKI.out)
 have KS:=Lh (KS.out.only hM HW.out.st hO HX.out.free aKS.out)
 have KW:=Lh (KW.out.only hM HW.out.st hO HX.out.free aKW.out)
 have KD:=Lh (KD.out.only hM HW.out.st hO HX.out.free aKD.out)
 have UO:=Lh (UO.out.only hM HW.out.st hO HX.out.free aUO.out)
 have UI:=Lh (UI.out.only hM HW.out.st hO HX.out.free aUI.out)
 have L40:=Lh (L40.out.only hM HW.out.st hO HX.out.free (by omega))
 have L50:=Lh (L50.out.only hM HW.out.st hO HX.out.free (by omega))
 have L60:=Lh (L60.out.only hM HW.out.st hO HX.out.free (by omega))
 have HB:=Lh (HB.out.only hM HW.out.st hO HX.out.free (by omega))
 have HX1:=Lh (HX.out.turn hM HW.out.st hO hB)
 have HW:=Lh (HW.out.only hM HX.out hO)
 have HX:=HX1
 clear HX1 ew hO hB fx cx7 cx8
 have HC:=Lh (pf_objs M hM s6 OA x.objs.length oc os _ (Lh HW.out.st) (Lh KO.out) (Lh (UO.out.hi_ HW.out.stp.size)) (Lh (by rw [← HOs.out,List.length_map])) HO.out.objs.2 (Lh fun m hm=>HO.out.objs.1 _ (by rw [← HOs.out];exact List.mem_map.2 ⟨m,hm,rfl⟩)) KOZ (Lh (hM.mono HF.out (by omega))))
 rw [HOs.out] at HC
 have HF:=Lh (f_objs hM (l:=x.objs) (HO.out.objs) (a:=12094925701190) (hM.mono HF.out (by omega)))
 generalize objsF M s6 x.objs=r at *
 obtain⟨s7,y7⟩:=r
 rw [bnd_mk] at HR
 simp only at HC HF
 refine HC.out.mono ?_
 rintro e w7 ⟨A7,c7,os7,rfl,l0,l1,e7,hs,hk⟩
 have E7:=Lh e7
 clear e7
 clear HC
 have KM:=Lh (KM.out.call hk)
 have KN:=Lh (KN.out.call hk)
 have KC:=Lh (KC.out.call hk)
 have KO:=Lh (KO.out.call hk)
 have KI:=Lh (KI.out.call hk)
 have KS:=Lh (KS.out.call hk)
 have KW:=Lh (KW.out.call hk)
 have KD:=Lh (KD.out.call hk)
 have UO:=Lh (UO.out.call hk)
 have UI:=Lh (UI.out.call hk)
 have L40:=Lh (L40.out.call hk)
 have L50:=Lh (L50.out.call hk)
 have L60:=Lh (L60.out.call hk)
 have L70:=Lh (l0.mono HB.out.free.lt)
 clear l0
 have L71:=Lh (l1.mono HB.out.free.lt)
 clear l1
 have HX:=Lh (HX.out.call hk)
 have HB:=Lh (HB.out.call hk)
 have HW:=Lh (HW.out.call hs hk)
 clear hs hk
 have cx8:=HX.out.blk.cell 8
 have fx:=HX.out.blk.frozen
 have cx9:=HX.out.blk.cell 9
 go_wp2_with fail
 obtain⟨v7,ew⟩:∃v7,w7.setCell ⟨w.heap.size,8,none⟩ (.slice A7 y7.length c7)=v7:=⟨_,rfl⟩
 have hO:=(Only.set_ w7 w.heap.size 8 (.slice A7 y7.length c7))
 have hB:Blk (w7.setCell ⟨w.heap.size,8,none⟩ (.slice A7 y7.length c7)) w.heap.size 34 #[.int .i64 y1,.int .i64 y2,.int .i64 y3,.int .u64 (y4.1:Int),.slice A4 y4.2.length c4,.int .u64 (y5.1:Int),.slice A5 y5.2.length c5,.slice A6 y6.length c6,.slice A7 y7.length c7,.slice IA x.ints.length ic,.slice SA x.sess.length sc,.slice WA x.wass.length wc,.slice DA x.down.length dc,.int .u64 (x.last:Int)]:=by have:=(HX.out.blk.set_ 8 (.slice A7 y7.length c7));simpa using this
 rw [ew] at hO hB ⊢
 have KM:=Lh (KM.out.only hM HW.out.st hO HX.out.free aKM.out)
 have KN:=Lh (KN.out.only hM HW.out.st hO HX.out.free aKN.out)
 have KC:=Lh (KC.out.only hM HW.out.st hO HX.out.free aKC.out)
 have KO:=Lh (KO.out.only hM HW.out.st hO HX.out.free aKO.out)
 have KI:=Lh (KI.out.only hM HW.out.st hO HX.out.free aKI.out)
 have KS:=Lh (KS.out.only hM HW.out.st hO HX.out.free aKS.out)
 have KW:=Lh (KW.out.only hM HW.out.st hO HX.out.free aKW.out)
 have KD:=Lh (KD.out.only hM HW.out.st hO HX.out.free aKD.out)
 have UO:=Lh (UO.out.only hM HW.out.st hO HX.out.free aUO.out)
 have UI:=Lh (UI.out.only hM HW.out.st hO HX.out.free aUI.out)
 have L40:=Lh (L40.out.only hM HW.out.st hO HX.out.free (by omega))
 have L50:=Lh (L50.out.only hM HW.out.st hO HX.out.free (by omega))
 have L60:=Lh (L60.out.only hM HW.out.st hO HX.out.free (by omega))
 have L70:=Lh (L70.out.only hM HW.out.st hO HX.out.free (by omega))
 have L71:=Lh (L71.out.only hM HW.out.st hO HX.out.free (by omega))
 have HB:=Lh (HB.out.only hM HW.out.st hO HX.out.free (by omega))
 have HX1:=Lh (HX.out.turn hM HW.out.st hO hB)
 have HW:=Lh (HW.out.only hM HX.out hO)
 have HX:=HX1
 clear HX1 ew hO hB fx cx8 cx9
 have HC:=Lh (pf_ints2 M hM s7 IA x.ints.length ic is _ (Lh HW.out.st) (Lh KI.out) (Lh (UI.out.hi_ HW.out.stp.size)) (Lh (by rw [← HIs.out,List.length_map])) HO.out.ints.2 (Lh fun m hm=>HO.out.ints.1 _ (by rw [← HIs.out];exact List.mem_map.2 ⟨m,hm,rfl⟩)) KIZ (Lh (hM.mono HF.out (by omega))))
 rw [HIs.out] at HC
 have HF:=Lh (f_ints2 hM (l:=x.ints) (HO.out.ints) (a:=104857660) (hM.mono HF.out (by omega)))
 generalize ints2F M s7 x.ints=r at *
 obtain⟨s8,y8⟩:=r
 rw [bnd_mk] at HR
 simp only at HC HF
 refine HC.out.mono ?_
 rintro e w8 ⟨A8,c8,is8,rfl,l0,l1,e8,hs,hk⟩
 have E8:=Lh e8
 clear e8
 clear HC
 have KM:=Lh (KM.out.call hk)
 have KN:=Lh (KN.out.call hk)
 have KC:=Lh (KC.out.call hk)
 have KO:=Lh (KO.out.call hk)
 have KI:=Lh (KI.out.call hk)
 have KS:=Lh (KS.out.call hk)
 have KW:=Lh (KW.out.call hk)
 have KD:=Lh (KD.out.call hk)
 have UO:=Lh (UO.out.call hk)
 have UI:=Lh (UI.out.call hk)
 have L40:=Lh (L40.out.call hk)
 have L50:=Lh (L50.out.call hk)
 have L60:=Lh (L60.out.call hk)
 have L70:=Lh (L70.out.call hk)
 have L71:=Lh (L71.out.call hk)
 have L80:=Lh (l0.mono HB.out.free.lt)
 clear l0
 have L81:=Lh (l1.mono HB.out.free.lt)
 clear l1
 have HX:=Lh (HX.out.call hk)
 have HB:=Lh (HB.out.call hk)
 have HW:=Lh (HW.out.call hs hk)
 clear hs hk
 have cx9:=HX.out.blk.cell 9
 have fx:=HX.out.blk.frozen
 have cx10:=HX.out.blk.cell 10
 go_wp2_with fail
 obtain⟨v8,ew⟩:∃v8,w8.setCell ⟨w.heap.size,9,none⟩ (.slice A8 y8.length c8)=v8:=⟨_,rfl⟩
 have hO:=(Only.set_ w8 w.heap.size 9 (.slice A8 y8.length c8))
 have hB:Blk (w8.setCell ⟨w.heap.size,9,none⟩ (.slice A8 y8.length c8)) w.heap.size 34 #[.int .i64 y1,.int .i64 y2,.int .i64 y3,.int .u64 (y4.1:Int),.slice A4 y4.2.length c4,.int .u64 (y5.1:Int),.slice A5 y5.2.length c5,.slice A6 y6.length c6,.slice A7 y7.length c7,.slice A8 y8.length c8,.slice SA x.sess.length sc,.slice WA x.wass.length wc,.slice DA x.down.length dc,.int .u64 (x.last:Int)]:=by have:=(HX.out.blk.set_ 9 (.slice A8 y8.length c8));simpa using this
 rw [ew] at hO hB ⊢
 have KM:=Lh (KM.out.only hM HW.out.st hO HX.out.free aKM.out)
 have KN:=Lh (KN.out.only hM HW.out.st hO HX.out.free aKN.out)
 have KC:=Lh (KC.out.only hM HW.out.st hO HX.out.free aKC.out)
 have KO:=Lh (KO.out.only hM HW.out.st hO HX.out.free aKO.out)
 have KI:=Lh (KI.out.only hM HW.out.st hO HX.out.free aKI.out)
 have KS:=Lh (KS.out.only hM HW.out.st hO HX.out.free aKS.out)
 have KW:=Lh (KW.out.only hM HW.out.st hO HX.out.free aKW.out)
 have KD:=Lh (KD.out.only hM HW.out.st hO HX.out.free aKD.out)
 have UO:=Lh (UO.out.only hM HW.out.st hO HX.out.free aUO.out)
 have UI:=Lh (UI.out.only hM HW.out.st hO HX.out.free aUI.out)
 have L40:=Lh (L40.out.only hM HW.out.st hO HX.out.free (by omega))
 have L50:=Lh (L50.out.only hM HW.out.st hO HX.out.free (by omega))
 have L60:=Lh (L60.out.only hM HW.out.st hO HX.out.free (by omega))
 have L70:=Lh (L70.out.only hM HW.out.st hO HX.out.free (by omega))
 have L71:=Lh (L71.out.only hM HW.out.st hO HX.out.free (by omega))
 have L80:=Lh (L80.out.only hM HW.out.st hO HX.out.free (by omega))
 have L81:=Lh (L81.out.only hM HW.out.st hO HX.out.free (by omega))
 have HB:=Lh (HB.out.only hM HW.out.st hO HX.out.free (by omega))
 have HX1:=Lh (HX.out.turn hM HW.out.st hO hB)
 have HW:=Lh (HW.out.only hM HX.out hO)
 have HX:=HX1
 clear HX1 ew hO hB fx cx9 cx10
 have HC:=Lh (pf_sess M hM s8 SA x.sess.length sc x.sess _ (Lh HW.out.st) (Lh KS.out) (Lh rfl) HO.out.sess.2 (Lh HO.out.sess.1) KSZ (Lh (hM.mono HF.out (by omega))))
 have HF:=Lh (f_sess hM (l:=x.sess) (HO.out.sess) (a:=52428850) (hM.mono HF.out (by omega)))
 generalize sessF M s8 x.sess=r at *
 obtain⟨s9,y9⟩:=r
 rw [bnd_mk] at HR
 simp only at HC HF
 refine HC.out.mono ?_
 rintro e w9 ⟨A9,c9,rfl,l0,hs,hk⟩
 clear HC
 have KM:=Lh (KM.out.call hk)
 have KN:=Lh (KN.out.call hk)
 have KC:=Lh (KC.out.call hk)
 have KO:=Lh (KO.out.call hk)
 have KI:=Lh (KI.out.call hk)
 have KS:=Lh (KS.out.call hk)
 have KW:=Lh (KW.out.call hk)
 have KD:=Lh (KD.out.call hk)
 have UO:=Lh (UO.out.call hk)
 have UI:=Lh (UI.out.call hk)
 have L40:=Lh (L40.out.call hk)
 have L50:=Lh (L50.out.call hk)
 have L60:=Lh (L60.out.call hk)
 have L70:=Lh (L70.out.call hk)
 have L71:=Lh (L71.out.call hk)
 have L80:=Lh (L80.out.call hk)
 have L81:=Lh (L81.out.call hk)
 have L90:=Lh (l0.mono HB.out.free.lt)
 clear l0
 have HX:=Lh (HX.out.call hk)
 have HB:=Lh (HB.out.call hk)
 have HW:=Lh (HW.out.call hs hk)
 clear hs hk
 have cx10:=HX.out.blk.cell 10
 have fx:=HX.out.blk.frozen
 have cx11:=HX.out.blk.cell 11
 go_wp2_with fail
 obtain⟨v9,ew⟩:∃v9,w9.setCell ⟨w.heap.size,10,none⟩ (.slice A9 y9.length c9)=v9:=⟨_,rfl⟩
 have hO:=(Only.set_ w9 w.heap.size 10 (.slice A9 y9.length c9))
 have hB:Blk (w9.setCell ⟨w.heap.size,10,none⟩ (.slice A9 y9.length c9)) w.heap.size 34 #[.int .i64 y1,.int .i64 y2,.int .i64 y3,.int .u64 (y4.1:Int),.slice A4 y4.2.length c4,.int .u64 (y5.1:Int),.slice A5 y5.2.length c5,.slice A6 y6.length c6,.slice A7 y7.length c7,.slice A8 y8.length c8,.slice A9 y9.length c9,.slice WA x.wass.length wc,.slice DA x.down.length dc,.int .u64 (x.last:Int)]:=by have:=(HX.out.blk.set_ 10 (.slice A9 y9.length c9));simpa using this
 rw [ew] at hO hB ⊢
 have KM:=Lh (KM.out.only hM HW.out.st hO HX.out.free aKM.out)
 have KN:=Lh (KN.out.only hM HW.out.st hO HX.out.free aKN.out)
 have KC:=Lh (KC.out.only hM HW.out.st hO HX.out.free aKC.out)
 have KO:=Lh (KO.out.only hM HW.out.st hO HX.out.free aKO.out)
 have KI:=Lh (KI.out.only hM HW.out.st hO HX.out.free aKI.out)
 have KS:=Lh (KS.out.only hM HW.out.st hO HX.out.free aKS.out)
 have KW:=Lh (KW.out.only hM HW.out.st hO HX.out.free aKW.out)
 have KD:=Lh (KD.out.only hM HW.out.st hO HX.out.free aKD.out)
 have UO:=Lh (UO.out.only hM HW.out.st hO HX.out.free aUO.out)
 have UI:=Lh (UI.out.only hM HW.out.st hO HX.out.free aUI.out)
 have L40:=Lh (L40.out.only hM HW.out.st hO HX.out.free (by omega))
 have L50:=Lh (L50.out.only hM HW.out.st hO HX.out.free (by omega))
 have L60:=Lh (L60.out.only hM HW.out.st hO HX.out.free (by omega))
 have L70:=Lh (L70.out.only hM HW.out.st hO HX.out.free (by omega))
 have L71:=Lh (L71.out.only hM HW.out.st hO HX.out.free (by omega))
 have L80:=Lh (L80.out.only hM HW.out.st hO HX.out.free (by omega))
 have L81:=Lh (L81.out.only hM HW.out.st hO HX.out.free (by omega))
 have L90:=Lh (L90.out.only hM HW.out.st hO HX.out.free (by omega))
 have HB:=Lh (HB.out.only hM HW.out.st hO HX.out.free (by omega))
 have HX1:=Lh (HX.out.turn hM HW.out.st hO hB)
 have HW:=Lh (HW.out.only hM HX.out hO)
 have HX:=HX1
 clear HX1 ew hO hB fx cx10 cx11
 have HC:=Lh (pf_wass M hM s9 WA x.wass.length wc x.wass _ (Lh HW.out.st) (Lh KW.out) (Lh rfl) HO.out.wass.2 (Lh HO.out.wass.1) KWZ (Lh (hM.mono HF.out (by omega))))
 have HF:=Lh (f_wass hM (l:=x.wass) (HO.out.wass) (a:=10485800) (hM.mono HF.out (by omega)))
 generalize wassF M s9 x.wass=r at *
 obtain⟨s10,y10⟩:=r
 rw [bnd_mk] at HR
 simp only at HC HF
 refine HC.out.mono ?_
 rintro e w10 ⟨A10,c10,rfl,l0,hs,hk⟩
 clear HC
 have KM:=Lh (KM.out.call hk)
 have KN:=Lh (KN.out.call hk)
 have KC:=Lh (KC.out.call hk)
 have KO:=Lh (KO.out.call hk)
 have KI:=Lh (KI.out.call hk)
 have KS:=Lh (KS.out.call hk)
 have KW:=Lh (KW.out.call hk)
 have KD:=Lh (KD.out.call hk)
 have UO:=Lh (UO.out.call hk)
 have UI:=Lh (UI.out.call hk)
 have L40:=Lh (L40.out.call hk)
 have L50:=Lh (L50.out.call hk)
 have L60:=Lh (L60.out.call hk)
 have L70:=Lh (L70.out.call hk)
 have L71:=Lh (L71.out.call hk)
 have L80:=Lh (L80.out.call hk)
 have L81:=Lh (L81.out.call hk)
 have L90:=Lh (L90.out.call hk)
 have L100:=Lh (l0.mono HB.out.free.lt)
 clear l0
 have HX:=Lh (HX.out.call hk)
 have HB:=Lh (HB.out.call hk)
 have HW:=Lh (HW.out.call hs hk)
 clear hs hk
 have cx11:=HX.out.blk.cell 11
 have fx:=HX.out.blk.frozen
 have cx12:=HX.out.blk.cell 12
 go_wp2_with fail
 obtain⟨v10,ew⟩:∃v10,w10.setCell ⟨w.heap.size,11,none⟩ (.slice A10 y10.length c10)=v10:=⟨_,rfl⟩
 have hO:=(Only.set_ w10 w.heap.size 11 (.slice A10 y10.length c10))
 have hB:Blk (w10.setCell ⟨w.heap.size,11,none⟩ (.slice A10 y10.length c10)) w.heap.size 34 #[.int .i64 y1,.int .i64 y2,.int .i64 y3,.int .u64 (y4.1:Int),.slice A4 y4.2.length c4,.int .u64 (y5.1:Int),.slice A5 y5.2.length c5,.slice A6 y6.length c6,.slice A7 y7.length c7,.slice A8 y8.length c8,.slice A9 y9.length c9,.slice A10 y10.length c10,.slice DA x.down.length dc,.int .u64 (x.last:Int)]:=by have:=(HX.out.blk.set_ 11 (.slice A10 y10.length c10));simpa using this
 rw [ew] at hO hB ⊢
 have KM:=Lh (KM.out.only hM HW.out.st hO HX.out.free aKM.out)
 have KN:=Lh (KN.out.only hM HW.out.st hO HX.out.free aKN.out)
 have KC:=Lh (KC.out.only hM HW.out.st hO HX.out.free aKC.out)
 have KO:=Lh (KO.out.only hM HW.out.st hO HX.out.free aKO.out)
 have KI:=Lh (KI.out.only hM HW.out.st hO HX.out.free aKI.out)
 have KS:=Lh (KS.out.only hM HW.out.st hO HX.out.free aKS.out)
 have KW:=Lh (KW.out.only hM HW.out.st hO HX.out.free aKW.out)
 have KD:=Lh (KD.out.only hM HW.out.st hO HX.out.free aKD.out)
 have UO:=Lh (UO.out.only hM HW.out.st hO HX.out.free aUO.out)
 have UI:=Lh (UI.out.only hM HW.out.st hO HX.out.free aUI.out)
 have L40:=Lh (L40.out.only hM HW.out.st hO HX.out.free (by omega))
 have L50:=Lh (L50.out.only hM HW.out.st hO HX.out.free (by omega))
 have L60:=Lh (L60.out.only hM HW.out.st hO HX.out.free (by omega))
 have L70:=Lh (L70.out.only hM HW.out.st hO HX.out.free (by omega))
 have L71:=Lh (L71.out.only hM HW.out.st hO HX.out.free (by omega))
 have L80:=Lh (L80.out.only hM HW.out.st hO HX.out.free (by omega))
 have L81:=Lh (L81.out.only hM HW.out.st hO HX.out.free (by omega))
 have L90:=Lh (L90.out.only hM HW.out.st hO HX.out.free (by omega))
 have L100:=Lh (L100.out.only hM HW.out.st hO HX.out.free (by omega))
 have HB:=Lh (HB.out.only hM HW.out.st hO HX.out.free (by omega))
 have HX1:=Lh (HX.out.turn hM HW.out.st hO hB)
 have HW:=Lh (HW.out.only hM HX.out hO)
 have HX:=HX1
 clear HX1 ew hO hB fx cx11 cx12
 have HC:=Lh (pf_ints M hM s10 DA x.down.length dc x.down _ (Lh HW.out.st) (Lh KD.out) (Lh rfl) (HO.out.down).2 (Lh (HO.out.down).1) KDZ (Lh (hM.mono HF.out (by omega))))
 have HF:=Lh (f_ints hM (HO.out.down).2 (getD_I64 (HO.out.down).1) (a:=10) (hM.mono HF.out (by omega)))
 generalize intsF M s10 x.down=r at *
 obtain⟨s11,y11⟩:=r
 rw [bnd_mk] at HR
 simp only at HC HF
 refine HC.out.mono ?_
 rintro e w11 ⟨A11,c11,rfl,l0,hs,hk⟩
 clear HC
 have KM:=Lh (KM.out.call hk)
 have KN:=Lh (KN.out.call hk)
 have KC:=Lh (KC.out.call hk)
 have KO:=Lh (KO.out.call hk)
 have KI:=Lh (KI.out.call hk)
 have KS:=Lh (KS.out.call hk)
 have KW:=Lh (KW.out.call hk)
 have KD:=Lh (KD.out.call hk)
 have UO:=Lh (UO.out.call hk)
 have UI:=Lh (UI.out.call hk)
 have L40:=Lh (L40.out.call hk)
 have L50:=Lh (L50.out.call hk)
 have L60:=Lh (L60.out.call hk)
 have L70:=Lh (L70.out.call hk)
 have L71:=Lh (L71.out.call hk)
 have L80:=Lh (L80.out.call hk)
 have L81:=Lh (L81.out.call hk)
 have L90:=Lh (L90.out.call hk)
 have L100:=Lh (L100.out.call hk)
 have L110:=Lh (l0.mono HB.out.free.lt)
 clear l0
 have HX:=Lh (HX.out.call hk)
 have HB:=Lh (HB.out.call hk)
 have HW:=Lh (HW.out.call hs hk)
 clear hs hk
 have cx12:=HX.out.blk.cell 12
 have fx:=HX.out.blk.frozen
 have cx13:=HX.out.blk.cell 13
 go_wp2_with fail
 obtain⟨v11,ew⟩:∃v11,w11.setCell ⟨w.heap.size,12,none⟩ (.slice A11 y11.length c11)=v11:=⟨_,rfl⟩
 have hO:=(Only.set_ w11 w.heap.size 12 (.slice A11 y11.length c11))
 have hB:Blk (w11.setCell ⟨w.heap.size,12,none⟩ (.slice A11 y11.length c11)) w.heap.size 34 #[.int .i64 y1,.int .i64 y2,.int .i64 y3,.int .u64 (y4.1:Int),.slice A4 y4.2.length c4,.int .u64 (y5.1:Int),.slice A5 y5.2.length c5,.slice A6 y6.length c6,.slice A7 y7.length c7,.slice A8 y8.length c8,.slice A9 y9.length c9,.slice A10 y10.length c10,.slice A11 y11.length c11,.int .u64 (x.last:Int)]:=by have:=(HX.out.blk.set_ 12 (.slice A11 y11.length c11));simpa using this
 rw [ew] at hO hB ⊢
 have KM:=Lh (KM.out.only hM HW.out.st hO HX.out.free aKM.out)
 have KN:=Lh (KN.out.only hM HW.out.st hO HX.out.free aKN.out)
 have KC:=Lh (KC.out.only hM HW.out.st hO HX.out.free aKC.out)
 have KO:=Lh (KO.out.only hM HW.out.st hO HX.out.free aKO.out)
 have KI:=Lh (KI.out.only hM HW.out.st hO HX.out.free aKI.out)
 have KS:=Lh (KS.out.only hM HW.out.st hO HX.out.free aKS.out)
 have KW:=Lh (KW.out.only hM HW.out.st hO HX.out.free aKW.out)
 have KD:=Lh (KD.out.only hM HW.out.st hO HX.out.free aKD.out)
 have UO:=Lh (UO.out.only hM HW.out.st hO HX.out.free aUO.out)
 have UI:=Lh (UI.out.only hM HW.out.st hO HX.out.free aUI.out)
 have L40:=Lh (L40.out.only hM HW.out.st hO HX.out.free (by omega))
 have L50:=Lh (L50.out.only hM HW.out.st hO HX.out.free (by omega))
 have L60:=Lh (L60.out.only hM HW.out.st hO HX.out.free (by omega))
 have L70:=Lh (L70.out.only hM HW.out.st hO HX.out.free (by omega))
 have L71:=Lh (L71.out.only hM HW.out.st hO HX.out.free (by omega))
 have L80:=Lh (L80.out.only hM HW.out.st hO HX.out.free (by omega))
 have L81:=Lh (L81.out.only hM HW.out.st hO HX.out.free (by omega))
 have L90:=Lh (L90.out.only hM HW.out.st hO HX.out.free (by omega))
 have L100:=Lh (L100.out.only hM HW.out.st hO HX.out.free (by omega))
 have L110:=Lh (L110.out.only hM HW.out.st hO HX.out.free (by omega))
 have HB:=Lh (HB.out.only hM HW.out.st hO HX.out.free (by omega))
 have HX1:=Lh (HX.out.turn hM HW.out.st hO hB)
 have HW:=Lh (HW.out.only hM HX.out hO)
 have HX:=HX1
 clear HX1 ew hO hB fx cx12 cx13
 have HC:=Lh (hM.c_u64 s11 x.last _ (Lh HW.out.st) HO.out.last (hM.mono HF.out (by omega)))
 have HF:=Lh (hM.f_u64 (s:=s11) (x:=x.last) (a:=0) (hM.mono HF.out (by omega)) HO.out.last)
 generalize M.u64 s11 x.last=r at *
 obtain⟨s12,y12⟩:=r
 rw [bnd_mk] at HR
 simp only at HC HF
 refine HC.out.mono ?_
 rintro e w12 ⟨rfl,hs,hk⟩
 clear HC
 have KM:=Lh (KM.out.call hk)
 have KN:=Lh (KN.out.call hk)
 have KC:=Lh (KC.out.call hk)
 have KO:=Lh (KO.out.call hk)
 have KI:=Lh (KI.out.call hk)
 have KS:=Lh (KS.out.call hk)
 have KW:=Lh (KW.out.call hk)
 have KD:=Lh (KD.out.call hk)
 have UO:=Lh (UO.out.call hk)
 have UI:=Lh (UI.out.call hk)
 have L40:=Lh (L40.out.call hk)
 have L50:=Lh (L50.out.call hk)
 have L60:=Lh (L60.out.call hk)
 have L70:=Lh (L70.out.call hk)
 have L71:=Lh (L71.out.call hk)
 have L80:=Lh (L80.out.call hk)
 have L81:=Lh (L81.out.call hk)
 have L90:=Lh (L90.out.call hk)
 have L100:=Lh (L100.out.call hk)
 have L110:=Lh (L110.out.call hk)
 have HX:=Lh (HX.out.call hk)
 have HB:=Lh (HB.out.call hk)
 have HW:=Lh (HW.out.call hs hk)
 clear hs hk
 have cx13:=HX.out.blk.cell 13
 have fx:=HX.out.blk.frozen
 have hO:=(Only.set_ w12 w.heap.size 13 (.int .u64 (y12:Int)))
 have hB:Blk (w12.setCell ⟨w.heap.size,13,none⟩ (.int .u64 (y12:Int))) w.heap.size 34 #[.int .i64 y1,.int .i64 y2,.int .i64 y3,.int .u64 (y4.1:Int),.slice A4 y4.2.length c4,.int .u64 (y5.1:Int),.slice A5 y5.2.length c5,.slice A6 y6.length c6,.slice A7 y7.length c7,.slice A8 y8.length c8,.slice A9 y9.length c9,.slice A10 y10.length c10,.slice A11 y11.length c11,.int .u64 (y12:Int)]:=by have:=(HX.out.blk.set_ 13 (.int .u64 (y12:Int)));simpa using this
 have KM:=Lh (KM.out.only hM HW.out.st hO HX.out.free aKM.out)
 have KN:=Lh (KN.out.only hM HW.out.st hO HX.out.free aKN.out)
 have KC:=Lh (KC.out.only hM HW.out.st hO HX.out.free aKC.out)
 have KO:=Lh (KO.out.only hM HW.out.st hO HX.out.free aKO.out)
 have KI:=Lh (KI.out.only hM HW.out.st hO HX.out.free aKI.out)
 have KS:=Lh (KS.out.only hM HW.out.st hO HX.out.free aKS.out)
 have KW:=Lh (KW.out.only hM HW.out.st hO HX.out.free aKW.out)
 have KD:=Lh (KD.out.only hM HW.out.st hO HX.out.free aKD.out)
 have UO:=Lh (UO.out.only hM HW.out.st hO HX.out.free aUO.out)
 have UI:=Lh (UI.out.only hM HW.out.st hO HX.out.free aUI.out)
 have L40:=Lh (L40.out.only hM HW.out.st hO HX.out.free (by omega))
 have L50:=Lh (L50.out.only hM HW.out.st hO HX.out.free (by omega))
 have L60:=Lh (L60.out.only hM HW.out.st hO HX.out.free (by omega))
 have L70:=Lh (L70.out.only hM HW.out.st hO HX.out.free (by omega))
 have L71:=Lh (L71.out.only hM HW.out.st hO HX.out.free (by omega))
 have L80:=Lh (L80.out.only hM HW.out.st hO HX.out.free (by omega))
 have L81:=Lh (L81.out.only hM HW.out.st hO HX.out.free (by omega))
 have L90:=Lh (L90.out.only hM HW.out.st hO HX.out.free (by omega))
 have L100:=Lh (L100.out.only hM HW.out.st hO HX.out.free (by omega))
 have L110:=Lh (L110.out.only hM HW.out.st hO HX.out.free (by omega))
 have HB:=Lh (HB.out.only hM HW.out.st hO HX.out.free (by omega))
 have HX1:=Lh (HX.out.turn hM HW.out.st hO hB)
 have HW:=Lh (HW.out.only hM HX.out hO)
 have HX:=HX1
 clear HX1 hO hB
 go_wp2_with (first | (refine wpl_load_blk rfl 34 (.tmp 3) rfl w.heap.size 34 _ _ rfl HX.out.blk Tryz.underlying34 rfl Tryz.sizeMet ?_) | (refine wpl_store_blk rfl 34 (.tmp 4) (.tmp 65) rfl (w.heap.size+1) 34 _ #[.int .i64 y1,.int .i64 y2,.int .i64 y3,.int .u64 (y4.1:Int),.slice A4 y4.2.length c4,.int .u64 (y5.1:Int),.slice A5 y5.2.length c5,.slice A6 y6.length c6,.slice A7 y7.length c7,.slice A8 y8.length c8,.slice A9 y9.length c9,.slice A10 y10.length c10,.slice A11 y11.length c11,.int .u64 (y12:Int)] rfl rfl HB.out.blk rfl Tryz.sizeMet rfl ?_;intro wf hB hO))
 have L40:=Lh (L40.out.only hM HW.out.st hO.out HB.out.free (by omega))
 have L50:=Lh (L50.out.only hM HW.out.st hO.out HB.out.free (by omega))
 have L60:=Lh (L60.out.only hM HW.out.st hO.out HB.out.free (by omega))
 have L70:=Lh (L70.out.only hM HW.out.st hO.out HB.out.free (by omega))
 have L71:=Lh (L71.out.only hM HW.out.st hO.out HB.out.free (by omega))
 have L80:=Lh (L80.out.only hM HW.out.st hO.out HB.out.free (by omega))
 have L81:=Lh (L81.out.only hM HW.out.st hO.out HB.out.free (by omega))
 have L90:=Lh (L90.out.only hM HW.out.st hO.out HB.out.free (by omega))
 have L100:=Lh (L100.out.only hM HW.out.st hO.out HB.out.free (by omega))
 have L110:=Lh (L110.out.only hM HW.out.st hO.out HB.out.free (by omega))
 have HW:=Lh (HW.out.only hM HB.out hO.out)
 refine bodyPost_ret (v := .agg #[.int .i64 y1,.int .i64 y2,.int .i64 y3,.int .u64 (y4.1:Int),.slice A4 y4.2.length c4,.int .u64 (y5.1:Int),.slice A5 y5.2.length c5,.slice A6 y6.length c6,.slice A7 y7.length c7,.slice A8 y8.length c8,.slice A9 y9.length c9,.slice A10 y10.length c10,.slice A11 y11.length c11,.int .u64 (y12:Int)]) (res_c Tryz.results74 rfl (load_blk hB.out Tryz.underlying34 rfl Tryz.sizeMet)) rfl ?_
 rw [HR.out]
 exact⟨⟨⟨y1,y2,y3,y4.1,y4.2,y5.1,y5.2,y6,y7,y8,y9,y10,y11,y12⟩,A4,c4,A5,c5,A6,c6,A7,c7,A8,c8,A9,c9,A10,c10,A11,c11,os7,is8⟩,rfl,rfl,⟨L40.out.mono (by omega),L50.out.mono (by omega),L60.out.mono (by omega),L70.out.mono (by omega),L80.out.mono (by omega),L90.out.mono (by omega),L100.out.mono (by omega),L110.out.mono (by omega),E7.out,E8.out,L71.out.mono (by omega),L81.out.mono (by omega)⟩,HW.out.st,HW.out.stp⟩
end
end Go.Proofs.YtdoneomahlfkbaaGreat
