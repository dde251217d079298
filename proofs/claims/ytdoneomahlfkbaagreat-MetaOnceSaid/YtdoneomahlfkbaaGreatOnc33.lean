/- WHAT P COMES TO for states. Plain. (printed by gen_pameta.py); THE PROGRAM'S WRITER of states, exported. (printed by gen_pameta.py); THE REFERENCE'S W -/
import Derived.Test.YtdoneomahlfkbaaGreatOnc32
import Derived.Test.YtdoneomahlfkbaaGreatOnc29
import Derived.Test.YtdoneomahlfkbaaGreatOnc28
import Derived.Test.YtdoneomahlfkbaaGreatOnc01
import Derived.Test.YtdoneomahlfkbaaGreatOnc24
set_option linter.unusedVariables false
set_option linter.unusedSimpArgs false
set_option maxRecDepth 100000
set_option maxHeartbeats 4000000
namespace Go.Proofs.YtdoneomahlfkbaaGreat
section
open Go.RowKit OctMath
theorem w_obj (g:Nat) (s:List Nat) (x:ObjT):(objF (wMd g) s x).1=s ++ pObj x:=by
 show (intsF (wMd g) (s ++ (putN x.key.length ++ x.key) ++ putN x.version ++ putN (zz x.size) ++ putN x.sum ++ putN (zz x.group) ++ putN x.epoch) x.nodes).1=_
 rw [w_ints]
 simp only [pObj,pInt,pText,List.append_assoc]
theorem w_inte (g:Nat) (s:List Nat) (x:IntT):(inteF (wMd g) s x).1=s ++ pIntent x:=by
 show ((objF (wMd g) s x.obj).1 ++ putN x.client ++ putN x.seq)=_
 rw [w_obj]
 simp only [pIntent,List.append_assoc]
theorem w_ses (g:Nat) (s:List Nat) (x:SesT):(sesF (wMd g) s x).1=s ++ pSes x:=by
 show (s ++ putN x.client ++ putN x.seq ++ [x.opn.toNat] ++ putN x.version ++ putN (zz x.code))=_
 rw [w_flag]
 simp only [pSes,pInt,List.append_assoc]
theorem w_was (g:Nat) (s:List Nat) (x:WasT):(wasF (wMd g) s x).1=s ++ pWas x:=by
 show ((idF (wMd g) s x.id).1 ++ putN (zz x.node))=_
 rw [w_id]
 simp only [pWas,pInt,List.append_assoc]
theorem w_objs (g:Nat) (s:List Nat) (l:List ObjT):(objsF (wMd g) s l).1=s ++ pList pObj l:=by
 have h:=w_it g (one:=objF (wMd g)) (put:=pObj) (fun s x=>w_obj g s x) l zOM.x (s ++ putN l.length) l.length (Nat.le_refl _)
 rw [List.take_length] at h
 show (itF (wMd g) (objF (wMd g)) (fun i=>l.getD i zOM.x) l.length (s ++ putN l.length)).1=_
 rw [h];unfold pList;rw [List.append_assoc]
theorem w_ints2 (g:Nat) (s:List Nat) (l:List IntT):(ints2F (wMd g) s l).1=s ++ pList pIntent l:=by
 have h:=w_it g (one:=inteF (wMd g)) (put:=pIntent) (fun s x=>w_inte g s x) l zIM.x (s ++ putN l.length) l.length (Nat.le_refl _)
 rw [List.take_length] at h
 show (itF (wMd g) (inteF (wMd g)) (fun i=>l.getD i zIM.x) l.length (s ++ putN l.length)).1=_
 rw [h];unfold pList;rw [List.append_assoc]
theorem w_sess (g:Nat) (s:List Nat) (l:List SesT):(sessF (wMd g) s l).1=s ++ pList pSes l:=by
 have h:=w_it g (one:=sesF (wMd g)) (put:=pSes) (fun s x=>w_ses g s x) l zSes (s ++ putN l.length) l.length (Nat.le_refl _)
 rw [List.take_length] at h
 show (itF (wMd g) (sesF (wMd g)) (fun i=>l.getD i zSes) l.length (s ++ putN l.length)).1=_
 rw [h];unfold pList;rw [List.append_assoc]
theorem w_wass (g:Nat) (s:List Nat) (l:List WasT):(wassF (wMd g) s l).1=s ++ pList pWas l:=by
 have h:=w_it g (one:=wasF (wMd g)) (put:=pWas) (fun s x=>w_was g s x) l zWas (s ++ putN l.length) l.length (Nat.le_refl _)
 rw [List.take_length] at h
 show (itF (wMd g) (wasF (wMd g)) (fun i=>l.getD i zWas) l.length (s ++ putN l.length)).1=_
 rw [h];unfold pList;rw [List.append_assoc]
theorem w_met (g:Nat) (s:List Nat) (x:MetT):(metF (wMd g) s x).1=s ++ pMet x:=by
 show ((intsF (wMd g) (wassF (wMd g) (sessF (wMd g) (ints2F (wMd g) (objsF (wMd g) (intsF (wMd g) (mapF (wMd g) (mapF (wMd g) (s ++ putN (zz x.k) ++ putN (zz x.n) ++ putN (zz x.groups)) (x.mep,x.mem)).1 (x.nep,x.nem)).1 x.cut).1 x.objs).1 x.ints).1 x.sess).1 x.wass).1 x.down).1 ++ putN x.last)=_
 rw [w_ints,w_wass,w_sess,w_ints2,w_objs,w_ints,w_map,w_map]
 simp only [pMet,pInt,List.append_assoc]
section
variable {bs:List Nat} (hb:Byt bs) {g n cap:Nat} {A:Option Addr}
include hb
end
end
section
open Go.RowKit OctMath
structure MetR (m:MM) (w:World):Prop where
 map:Reads w w.heap.size 2 m.MA m.x.mem.length (mcells m.x.mem)
 next:Reads w w.heap.size 2 m.NA m.x.nem.length (mcells m.x.nem)
 cut:Reads w w.heap.size 1 m.CA m.x.cut.length (m.x.cut.map iv)
 objs:Reads w w.heap.size 7 m.OA m.x.objs.length (m.os.flatMap omCs)
 ints:Reads w w.heap.size 9 m.IA m.x.ints.length (m.is.flatMap imCs)
 sess:Reads w w.heap.size 5 m.SA m.x.sess.length (m.x.sess.flatMap sesL)
 wass:Reads w w.heap.size 4 m.WA m.x.wass.length (m.x.wass.flatMap wasL)
 down:Reads w w.heap.size 1 m.DA m.x.down.length (m.x.down.map iv)
 os:m.os.map (·.x)=m.x.objs
 is:m.is.map (·.x)=m.x.ints
 oss:∀o ∈ m.os,Reads w w.heap.size 1 o.A o.x.nodes.length (o.x.nodes.map iv)
 iss:∀o ∈ m.is,Reads w w.heap.size 1 o.A o.x.obj.nodes.length (o.x.obj.nodes.map iv)
theorem MetR.later {m:MM} {w w':World} (h:MetR m w) (hb:Below w.heap.size w w'):MetR m w':=⟨h.map.later hb,h.next.later hb,h.cut.later hb,h.objs.later hb,h.ints.later hb,h.sess.later hb,h.wass.later hb,h.down.later hb,h.os,h.is,fun o ho=>(h.oss o ho).later hb,fun o ho=>(h.iss o ho).later hb⟩
theorem rd_lt {w:World} {sz n B:Nat} {A:Option Addr} {xs:List Value} (h:Reads w B sz A n xs):0<n→∀ad,A=some ad→ad.block<B:=fun h0 ad e=>by
 obtain⟨ad1,e1,h1,-⟩:=h.2 h0
 rw [e] at e1;injection e1 with e1;subst e1;exact h1
end
section
open Go.RowKit OctMath
theorem ls_of {w w1:World} {g sz n:Nat} {A:Option Addr} {xs:List Value} (h:Reads w w.heap.size sz A n xs) (hB:Below w.heap.size w w1) (hf:∀k,k<w.heap.size→Free (wMd g) k w1):Ls (wMd g) sz A n xs w1:=⟨h.later hB,fun h0 ad e=>hf _ (rd_lt h h0 ad e)⟩
theorem pf_metaW (g:Nat) (m:MM) (w w1:World) (hS:Hid ((wMd g).St [] w1)) (hK:MetR m w) (hB:Below w.heap.size w w1) (hf:∀k,k<w.heap.size→Free (wMd g) k w1) (HO:MetOk m.x) :
 Calls Tryz.prog 74 #[.pointer (some ⟨g,0,none⟩),.agg m.cs] w1 (RetMt (wMd g) (metF (wMd g) [] m.x).1 (metF (wMd g) [] m.x).2 w1) :=
 pf_meta (wMd g) (wMd_ok g) [] m.MA m.mc m.NA m.nc m.CA m.cc m.OA m.oc m.IA m.ic m.SA m.sc m.WA m.wc m.DA m.dc m.os m.is m.x w1 hS (Lh (ls_of hK.map hB hf)) (Lh (ls_of hK.next hB hf)) (Lh (ls_of hK.cut hB hf)) (Lh (ls_of hK.objs hB hf)) (Lh (ls_of hK.ints hB hf)) (Lh (ls_of hK.sess hB hf)) (Lh (ls_of hK.wass hB hf)) (Lh (ls_of hK.down hB hf)) (Lh ⟨fun r hr=>by
  obtain⟨o,ho,rfl⟩:=List.mem_map.1 hr
  have h:=ls_of (hK.oss o ho) hB hf
  exact⟨h,rd_lt h.rd⟩⟩) (Lh ⟨fun r hr=>by
  obtain⟨o,ho,rfl⟩:=List.mem_map.1 hr
  have h:=ls_of (hK.iss o ho) hB hf
  exact⟨h,rd_lt h.rd⟩⟩) (Lh hK.os) (Lh hK.is) HO (Lh (fun h=>by cases h)) (Lh (fun h=>by cases h)) (Lh (fun h=>by cases h)) (Lh (fun h=>by cases h)) (Lh (fun h=>by cases h)) (Lh (fun h=>by cases h)) (Lh (fun h=>by cases h)) (Lh (fun h=>by cases h)) (Lh (by show 0+24189778002120≤70000000000000;omega))
theorem rput_meta (m:MM) (w:World) (hK:Hid (MetR m w)) (HO:MetOk m.x) :
 Calls Tryz.prog 30 #[.slice none 0 0,.agg m.cs] w (RetO (pMet m.x) w):=by
 obtain⟨ys,hys⟩:∃ys,pMet m.x=ys:=⟨_,rfl⟩
 have HYS:=Lh hys
 rw [hys]
 clear hys
 obtain⟨w0,ew0⟩:∃w0,w.alloc (.cells m.cs 34)=w0:=⟨_,rfl⟩
 have hb:Below w.heap.size w (w.alloc (.cells m.cs 34)):=(Below.refl _ _).alloc (Nat.le_refl _) _
 have hx:Blk (w.alloc (.cells m.cs 34)) w.heap.size 34 m.cs:=Blk.new w _ _
 rw [ew0] at hb hx
 have HB0:=Lh hb
 have HX0:=Lh hx
 clear hb hx
 have HPF:=Lh (fun (g:Nat) (w1:World) hS (hB:Below w.heap.size w w1) hf=>pf_metaW g m w w1 hS hK.out hB hf HO)
 go_enter Tryz.func30,Tryz.ntmps30
 go_wp2_with (first
  | (go_at_call 73;refine (pen_writer none 0 0 [] _ Reads.none_ (by omega)).mono ?_;rintro en w1 ⟨g,rfl,hg,hb,hp⟩
     have HB4:=Lh (HB0.out.trans (hb.mono HB0.out.size))
     have HP1:=Lh (hp.mono (H':=fun k=>k<w.heap.size) (fun k hk => .inl (Nat.lt_of_lt_of_le hk HB0.out.size)))
     have HGE:=Lh (show w.heap.size≤g from Nat.le_trans HB0.out.size hg)
     have HX1:=Lh (HX0.out.below hb HX0.out.lt)
     clear hg hb hp ew0)
  | (refine wpl_load_blk rfl 34 (.tmp 3) rfl w.heap.size 34 _ _ rfl HX1.out Tryz.underlying34 rfl Tryz.sizeMet ?_)
  | (go_at_call 74;refine (HPF.out g w1 (Lh (HP1.out.mono (fun _ h=>h.elim))) HB4.out (fun k hk=>pen_free HP1.out hk HB4.out.size HGE.out)).mono ?_;rintro en w2 ⟨M1,-,rfl,-,hs,hk⟩
     have hs:Pen (fun _=>False) g (metF (wMd g) [] m.x).1 w2:=hs
     rw [w_met,List.nil_append,HYS.out] at hs
     have HK:=Lh hk
     obtain⟨pv,pB,pO,-,-⟩:=hs.out
     obtain⟨A9,c9,rfl,-,-⟩:=own_slice pO
     have z0:=pB.cell 0
     have HR:=Lh (Reads.of_own pO)
     clear hs hk pB pO))
 go_ret
 exact⟨_,_,rfl,HR.out,HB4.out.trans (stp_below HK.out HB4.out.size (fun k hk=>(pen_free HP1.out hk HB4.out.size HGE.out).wr))⟩
theorem same_meta (m:MM)  (w:World) (hK:Hid (MetR m w)) (m9:MM) (e9:m9.x=m.x) (hK9:Hid (MetR m9 w)) (HO:MetOk m.x) :
 Calls Tryz.prog 11 #[.agg m.cs,.agg m9.cs] w (fun e w'=>e = .returned (.bool true)∧Below w.heap.size w w'):=by
 obtain⟨ys,hys⟩:∃ys,pMet m.x=ys:=⟨_,rfl⟩
 have HP1:=Lh (fun W kK=>rput_meta m W kK HO)
 have HP2:=Lh (fun W kK=>rput_meta m9 W kK (e9.symm ▸ HO))
 rw [e9] at HP2
 rw [hys] at HP1 HP2
 clear hys HO
 have b1:=Lh ((Blk.new w 34 m.cs).alloc (.cells m9.cs 34))
 have b2:=Lh (Blk.new (w.alloc (.cells m.cs 34)) 34 m9.cs)
 have n1:=Lh (((Below.refl w.heap.size w).alloc (Nat.le_refl _) (.cells m.cs 34)).alloc (by simp) (.cells m9.cs 34))
 have es:(w.alloc (.cells m.cs 34)).heap.size=w.heap.size+1:=by simp
 rw [es] at b2
 go_enter Tryz.func11,Tryz.ntmps11
 go_wp2
 obtain⟨W,hW⟩:∃W,(w.alloc (.cells m.cs 34)).alloc (.cells m9.cs 34)=W:=⟨_,rfl⟩
 rw [hW] at b1 b2 n1 ⊢
 clear hW es
 refine wp_region_late (S0:=fun _=>True) (S:=fun w'=>Blk w' w.heap.size 34 m.cs∧Blk w' (w.heap.size+1) 34 m9.cs) 7 8 (by kernel_rfl) rfl ⟨trivial,b1.out.drew,b2.out.drew⟩ (fun wd hwd hH=>?_)
 have nd:=Lh (show Below w.heap.size w wd from by rw [hwd];exact n1.out.drew)
 clear hwd b1 b2 n1
 refine wpAnyT_take 0 rfl (by kernel_rfl) (fun _ _ _ h=>h) (yields_load_blk rfl 34 (.tmp 2) rfl w.heap.size 34 m.cs _ rfl (fun w' hw'=>hw'.1) Tryz.underlying34 rfl Tryz.sizeMet) hH ?_
 try simp only [Act.put,pA9,pZ9,pS9]
 refine wpAnyT_take 3 rfl (by kernel_rfl) (fun _ _ _ h=>h) (yields_load_blk rfl 34 (.tmp 3) rfl (w.heap.size+1) 34 m9.cs _ rfl (fun w' hw'=>hw'.2) Tryz.underlying34 rfl Tryz.sizeMet) hH ?_
 try simp only [Act.put,pA9,pZ9,pS9]
 have H3:=Lh (show ((strOf ys).toList == (strOf ys).toList)=true from by simp)
 refine wpAnyT_one 1 rfl (by kernel_rfl) (fun K hQ=>?_)
 go_simp
 (go_at_call 30;refine (HP1.out _ (Lh (hK.out.later nd.out))).mono ?_;rintro e w1 ⟨A7,cap1,rfl,r1,hb⟩;have R1:=Lh r1;have HB1:=Lh hb;clear r1 hb)
 refine hQ.out _ _ ⟨trivial,hH.2.1.below HB1.out hH.2.1.lt,hH.2.2.below HB1.out hH.2.2.lt⟩ (fun hH1=>?_)
 clear hQ K
 try simp only [Act.put,pA9,pZ9,pS9]
 refine wpAnyT_mono (S0':=fun w'=>Reads w' w'.heap.size 1 A7 ys.length (ys.map bv)) (S':=fun w'=>Blk w' w.heap.size 34 m.cs∧Blk w' (w.heap.size+1) 34 m9.cs) (fun _ _=>trivial) (fun _ h=>h) _ _ _ _ ?_
 refine tT 2 rfl ?_ ⟨R1.out,fun _=>hH1.2⟩ ?_ ?_
 rotate_left
 · (intro wx hx;have kc:=run_conv_bytes (P:=Tryz.prog) (src:=77) (dst:=9) (cap:=cap1) Tryz.underlying77 Tryz.underlying5 Tryz.underlying9 hx;go_simp <;> with_reducible rfl)
 try simp only [Act.put,pA9,pZ9,pS9]
 refine wpAnyT_one 4 rfl (by kernel_rfl) (fun K hQ=>?_)
 go_simp
 (go_at_call 30;refine (HP2.out _ (Lh (hK9.out.later (nd.out.trans (HB1.out.mono nd.out.size))))).mono ?_;rintro e w2 ⟨A8,cap2,rfl,r2,hb⟩;have R2:=Lh r2;have HB2:=Lh hb;clear r2 hb)
 refine hQ.out _ _ ⟨R1.out.later HB2.out,hH1.2.1.below HB2.out hH1.2.1.lt,hH1.2.2.below HB2.out hH1.2.2.lt⟩ (fun hH2=>?_)
 clear hQ K
 try simp only [Act.put,pA9,pZ9,pS9]
 refine wpAnyT_mono (S0':=fun w'=>Reads w' w'.heap.size 1 A8 ys.length (ys.map bv)∧Reads w' w'.heap.size 1 A7 ys.length (ys.map bv)) (S':=fun w'=>Blk w' w.heap.size 34 m.cs∧Blk w' (w.heap.size+1) 34 m9.cs) (fun _ h=>h.2) (fun _ h=>h) _ _ _ _ ?_
 refine tT 5 rfl ?_ ⟨⟨R2.out,hH2.1⟩,fun _=>hH2.2⟩ ?_ ?_
 rotate_left
 · (intro wx hx;have kc:=run_conv_bytes (P:=Tryz.prog) (src:=77) (dst:=9) (cap:=cap2) Tryz.underlying77 Tryz.underlying5 Tryz.underlying9 hx.1;go_simp <;> with_reducible rfl)
 try simp only [Act.put,pA9,pZ9,pS9]
 refine tT 6 rfl ?_ ⟨⟨R2.out,hH2.1⟩,fun _=>hH2.2⟩ ?_ ?_
 rotate_left
 · (intro wx hx;have h3:=H3.out;go_simp <;> with_reducible rfl)
 try simp only [Act.put,pA9,pZ9,pS9]
 refine wpAnyT_last 7 rfl (by kernel_rfl) (by decide) (fun K hQ=>?_)
 go_simp
 refine hQ.out _ _ ⟨R2.out,hH2.1⟩ (fun hH7=>?_)
 clear hQ K
 try simp only [Act.put,pA9,pZ9,pS9]
 refine wpAnyT_done (by kernel_rfl) ?_ _
 clear hH hH1 hH2 hH7
 go_wp2
 go_ret
 exact⟨rfl,(nd.out.trans (HB1.out.mono nd.out.size)).trans (HB2.out.mono (Nat.le_trans nd.out.size HB1.out.size))⟩
end
section
open Go.RowKit OctMath
theorem metr_of {m:MM} {w:World} (h:MIn m w):MetR m w :=
 ⟨h.rows.map.rd,h.rows.next.rd,by have:=h.rows.cut.rd;unfold MM.cut at this;rw [flat_i1] at this;exact this,h.rows.objs.rd,h.rows.ints.rd,h.rows.sess.rd,h.rows.wass.rd,
  by have:=h.rows.down.rd;unfold MM.down at this;rw [flat_i1] at this;exact this,h.os,h.is,fun o ho=>(h.rows.os o ho).rd,fun o ho=>(h.rows.is o ho).rd⟩
theorem min_setL {m:MM} {w:World} (h:MIn m w) (l:Nat):MIn (m.setL l) w:=⟨⟨h.rows.top,h.rows.os,h.rows.is⟩,h.os,h.is,⟨h.wf.ok,h.wf.ik,h.wf.ol,h.wf.il,h.wf.sl,h.wf.wl,h.wf.cl,h.wf.dl⟩⟩
end
end Go.Proofs.YtdoneomahlfkbaaGreat
