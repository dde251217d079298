/- THE REFERENCE'S WRITER (layer 5's P): what each of its calls writes, and what it leaves alone; THE REFERENCE'S WRITER: lengths, short numbers, names, -/
import Derived.Lib.ConvBytes
import Derived.Deep.RegionHeld3
import Derived.Test.YtdoneomahlfkbaaGreatOnc26
import Derived.Test.YtdoneomahlfkbaaGreatOnc02
import Derived.Test.YtdoneomahlfkbaaGreatOnc03
import Derived.Test.YtdoneomahlfkbaaGreatOnc01
set_option linter.unusedVariables false
set_option linter.unusedSimpArgs false
set_option maxRecDepth 100000
set_option maxHeartbeats 1000000
namespace Go.Proofs.YtdoneomahlfkbaaGreat
section
open Go.RowKit OctMath
structure Keep (H:Nat→Prop) (w w':World):Prop where
 os:w'.os=w.os
 tape:w'.tape=w.tape
 output:w'.output=w.output
 size:w.heap.size≤w'.heap.size
 block:∀k,H k→k<w.heap.size→w'.heap[k]?=w.heap[k]?
theorem Keep.refl (H:Nat→Prop) (w:World):Keep H w w:=⟨rfl,rfl,rfl,Nat.le_refl _,fun _ _ _=>rfl⟩
theorem Keep.trans {H:Nat→Prop} {w w' w'':World} (h:Keep H w w') (k:Keep H w' w''):Keep H w w'' :=
 ⟨k.os.trans h.os,k.tape.trans h.tape,k.output.trans h.output,Nat.le_trans h.size k.size,fun i hi hl=>(k.block i hi (Nat.lt_of_lt_of_le hl h.size)).trans (h.block i hi hl)⟩
theorem Keep.mono {H H':Nat→Prop} {w w':World} (h:Keep H w w') (hs:∀k,H' k→H k):Keep H' w w':=⟨h.os,h.tape,h.output,h.size,fun k hk=>h.block k (hs k hk)⟩
theorem Keep.below {H:Nat→Prop} {w w':World} (hb:Below w.heap.size w w'):Keep H w w':=⟨hb.os,hb.tape,hb.output,hb.size,fun k _ hl=>hb.block k hl⟩
theorem Keep.grown {H:Nat→Prop} {w w':World} {row:Option Nat} (hg:w.grownBy w' row) (hr:∀k,H k→some k≠row):Keep H w w':=⟨hg.os,hg.tape,hg.output,hg.size,fun k hk hl=>hg.block k hl (hr k hk)⟩
theorem Keep.only {H:Nat→Prop} {w w':World} {g:Nat} (ho:Only g w w') (hg:¬H g):Keep H w w':=Keep.grown ho.grown (fun k hk e=>hg (by injection e with e;rwa [← e]))
theorem Keep.set_ (H:Nat→Prop) (w:World) {g:Nat} (i:Nat) (u:Value) (hg:¬H g):Keep H w (w.setCell ⟨g,i,none⟩ u):=Keep.only (Only.set_ w g i u) hg
theorem Keep.alloc {H:Nat→Prop} {w w':World} (h:Keep H w w') (o:Obj):Keep H w (w'.alloc o):=h.trans (Keep.below ((Below.refl _ _).alloc (Nat.le_refl _) o))
theorem Keep.blk {H:Nat→Prop} {w w':World} {g:Nat} {t:TypeId} {cs:Array Value} (h:Keep H w w') (hB:Blk w g t cs) (hg:H g):Blk w' g t cs:=(h.block g hg hB.lt).trans hB
theorem Keep.cell {H:Nat→Prop} {w w':World} {p:Addr} {v:Value} (h:Keep H w w') (hc:w.cell? p=some v) (hp:H p.block):w'.cell? p=some v:=(World.cell?_of_block (h.block p.block hp (World.block_lt_of_cell? _ _ hc))).trans hc
theorem Keep.reads {H:Nat→Prop} {w w':World} {A:Option Addr} {n size:Nat} {xs:List Value} (h:Keep H w w') (hr:Reads w w.heap.size size A n xs) (hp:0<n→∀ad,A=some ad→H ad.block):Reads w' w'.heap.size size A n xs:=by
 refine⟨hr.1,fun hn=>?_⟩
 obtain⟨ad,e,hb,hc⟩:=hr.2 hn
 exact⟨ad,e,Nat.lt_of_lt_of_le hb h.size,fun j u hu=>h.cell (hc j u hu) (by rw [block_of_add];exact hp hn ad e)⟩
structure Pen (H:Nat→Prop) (g:Nat) (xs:List Nat) (w:World):Prop where
 out:∃v,Blk w g 133 #[v,.int .i64 0,.bool true,.bool false]∧w.ownsRow 0 5 1 v xs.length (xs.map bv)∧v.ownBlock≠some g∧(∀k,H k→v.ownBlock≠some k)
theorem Pen.lt {H:Nat→Prop} {g:Nat} {xs:List Nat} {w:World} (h:Pen H g xs w):g<w.heap.size:=by
 obtain⟨v,hB,_⟩:=h.out
 exact hB.lt
theorem Pen.mono {H H':Nat→Prop} {g:Nat} {xs:List Nat} {w:World} (h:Pen H g xs w) (hs:∀k,H' k→H k∨w.heap.size≤k):Pen H' g xs w:=by
 obtain⟨v,hB,hO,hg,hh⟩:=h.out
 exact⟨v,hB,hO,hg,fun k hk e=>(hs k hk).elim (fun h=>hh k h e) (fun h=>by have:=(hO.lt k e).2;omega)⟩
theorem Pen.later {H:Nat→Prop} {g:Nat} {xs:List Nat} {w w':World} (h:Pen H g xs w) (hb:Below w.heap.size w w'):Pen H g xs w':=by
 obtain⟨v,hB,hO,hg,hh⟩:=h.out
 exact⟨v,hB.below hb hB.lt,hO.kept (row:=none) ⟨hb.os,hb.tape,hb.output,hb.size,fun k hk _=>hb.block k hk⟩ (by cases h:v.ownBlock with | none=>exact .inl rfl | some x=>exact .inr (by simp)),hg,hh⟩
theorem Pen.only {H:Nat→Prop} {g k:Nat} {xs:List Nat} {w w':World} (h:Pen H g xs w) (ho:Only k w w') (hk:H k) (hg':k≠g):Pen H g xs w':=by
 obtain⟨v,hB,hO,hg,hh⟩:=h.out
 exact⟨v,ho.blk hB (Ne.symm hg'),ho.own hO (hh k hk),hg,hh⟩
theorem Pen.alloc {H:Nat→Prop} {g:Nat} {xs:List Nat} {w:World} (h:Pen H g xs w) (o:Obj):Pen H g xs (w.alloc o):=h.later ((Below.refl _ _).alloc (Nat.le_refl _) o)
def Safe (H:Nat→Prop) (g:Nat) (w:World):Prop:=∀k,H k→k<w.heap.size∧k≠g
def RetPen (H:Nat→Prop) (g:Nat) (ys:List Nat) (v:Value) (w:World) (e:Ending) (w':World):Prop:=e = .returned v∧Pen H g ys w'∧Keep H w w'
theorem pen_u64 (H:Nat→Prop) (g:Nat) (xs:List Nat) (n:Nat) (w:World) (hp:Hid (Pen H g xs w)) (hS:Hid (Safe H g w)) (hn:n<18446744073709551616) (hl:xs.length≤70000000000000) :
 Calls Tryz.prog 114 #[.pointer (some ⟨g,0,none⟩),.int .u64 n] w (RetPen H g (xs ++ putN n) (.int .u64 n) w):=by
 obtain⟨pv,hB,hO,hg,hh⟩:=hp.out.out
 obtain⟨ii,hi1,hi2,hi3,hi4⟩:=info_parts Tryz.infoU8
 have y2:w.cell? ⟨g,2,none⟩=some (.bool true):=hB.cell 2
 have HB:=Lh hB
 have HO:=Lh hO
 have PG:=Lh hg
 have HH:=Lh hh
 clear hB hO hg hh
 go_enter Tryz.func114,Tryz.ntmps114
 go_wp2
 refine wp_region_late (S0:=fun _=>True) (S:=fun w'=>w'.cell? ⟨g,0,none⟩=some pv) 10 11 (by kernel_rfl) rfl ⟨trivial,HB.out.cell 0⟩ (fun wd hwd hH=>?_)
 have DW:=Lh (show Below w.heap.size w wd from by rw [hwd];exact (Below.refl _ _).drew)
 clear hwd y2
 have GD:=Lh (HB.out.below DW.out HB.out.lt)
 have OD:=Lh (show wd.ownsRow 0 5 1 pv xs.length (xs.map bv) from HO.out.kept (row:=none) ⟨DW.out.os,DW.out.tape,DW.out.output,DW.out.size,fun k hk _=>DW.out.block k hk⟩ (by cases pv.ownBlock <;> simp))
 refine tS 0 rfl ?_ hH ?_ ?_
 rotate_left
 · (intro wx hx;go_simp <;> with_reducible rfl)
 try simp only [Act.put,pA9,pZ9,pS9]
 refine tS 1 rfl ?_ hH ?_ ?_
 rotate_left
 · (intro wx hx;go_simp <;> with_reducible rfl)
 try simp only [Act.put,pA9,pZ9,pS9]
 refine tS 2 rfl ?_ hH ?_ ?_
 rotate_left
 · (intro wx hx;go_simp <;> with_reducible rfl)
 try simp only [Act.put,pA9,pZ9,pS9]
 refine tS 3 rfl ?_ hH ?_ ?_
 rotate_left
 · (intro wx hx;go_simp <;> with_reducible rfl)
 try simp only [Act.put,pA9,pZ9,pS9]
 refine wpAnyT_take 4 (v:=?_) rfl (by kernel_rfl) (fun _ _ _ h=>h) (Or.inl ⟨by rfl,?_⟩) hH ?_
 rotate_left
 · (intro wx hx;go_simp <;> with_reducible rfl)
 try simp only [Act.put,pA9,pZ9,pS9]
 refine tS 5 rfl ?_ hH ?_ ?_
 rotate_left
 · (intro wx hx;go_simp <;> with_reducible rfl)
 try simp only [Act.put,pA9,pZ9,pS9]
 refine wpAnyT_one 6 rfl (by kernel_rfl) (fun K hK=>?_)
 go_simp
 (go_at_call 143;refine (rputnum_any none 0 0 n [] _ Reads.none_ (fun u hu=>by cases hu) hn (by omega)).mono ?_;rintro e w1 hr;obtain⟨A1,cap1,rfl,r1,r2,r3,hb,-⟩:=hr.open;have R1:=Lh r1;have HB1:=Lh hb;clear r1 hb)
 refine hK.out _ _ ?_ (fun hH6=>?_)
 · exact⟨trivial,(HB1.out.cell (p:=⟨g,0,none⟩) GD.out.lt).trans (GD.out.cell 0)⟩
 clear hK K
 try simp only [Act.put,pA9,pZ9,pS9]
 refine wpAnyT_one 7 rfl (by kernel_rfl) (fun K hK=>?_)
 refine step_append_any w1 rfl (.tmp 16) (.tmp 18) _ rfl 0 5 ii _ 1 1 Tryz.underlying77 hi1 hi2 hi3 hi4 rfl (by decide) pv xs.length (xs.map bv) rfl (OD.out.kept (row:=none) ⟨HB1.out.os,HB1.out.tape,HB1.out.output,HB1.out.size,fun k hk _=>HB1.out.block k hk⟩ (by cases pv.ownBlock <;> simp)) _ A1 _ cap1 _ rfl R1.out ?_ ?_ ?_ (Nat.zero_le _) ?_
 · exact (fun u hu=>bv_one (putN n) u (by simpa using hu))
 · (have:=putN_len1 n hn;unfold maxLen;simp at *;omega)
 · (have:=putN_len1 n hn;simp at *;omega)
 intro pv2 w2 ho2 hg2 hv2
 obtain⟨PA,pn,pc,rfl⟩:∃PA pn pc,pv2 = .slice PA pn pc:=(by obtain⟨x,y,e,_⟩:=own_slice ho2;exact⟨_,_,_,e⟩)
 have HO2:=Lh ho2
 have HG2:=Lh hg2
 have HV2:=Lh hv2
 clear ho2 hg2 hv2
 have GB:=Lh ((GD.out.below HB1.out GD.out.lt).grown HG2.out (fun e=>PG.out e.symm))
 have z0:w2.cell? ⟨g,0,none⟩=some pv:=GB.out.cell 0
 have z1:w2.frozen? ⟨g,0,none⟩=false:=GB.out.frozen 0
 refine hK.out _ _ ?_ (fun hH7=>?_)
 · exact⟨trivial,z0⟩
 clear hK K
 try simp only [Act.put]
 refine tS 8 rfl ?_ hH7 ?_ ?_
 rotate_left
 · (intro wx hx;go_simp <;> with_reducible rfl)
 try simp only [Act.put,pA9,pZ9,pS9]
 refine tS 9 rfl ?_ hH7 ?_ ?_
 rotate_left
 · (intro wx hx;go_simp <;> with_reducible rfl)
 try simp only [Act.put,pA9,pZ9,pS9]
 refine wpAnyT_last 10 rfl (by kernel_rfl) (by decide) (fun K hK=>?_)
 go_simp
 refine hK.out _ _ ?_ (fun hH10=>?_)
 · trivial
 clear hK K
 try simp only [Act.put,pA9,pZ9,pS9]
 refine wpAnyT_done (by kernel_rfl) ?_ _
 have GS:=Lh (GB.out.set_ 0 (.slice PA pn pc))
 have OS:=Lh (Only.set_ w2 g 0 (.slice PA pn pc))
 obtain⟨w3,hw3⟩:∃w3,w2.setCell ⟨g,0,none⟩ (.slice PA pn pc)=w3:=⟨_,rfl⟩
 rw [hw3] at GS OS ⊢
 clear hw3 z0 z1
 clear hH hH6 hH7 hH10
 go_wp2
 go_ret
 have lo:∀k,pv.ownBlock=some k→k<w.heap.size:=fun k e=>(HO.out.lt k e).2
 have hne:∀k,k<w.heap.size→pv.ownBlock≠some k→(Value.slice PA pn pc).ownBlock≠some k:=fun k hk hn e=>by
  rcases HV2.out with h | h
  · exact hn (h.symm.trans e)
  · rw [h] at e;injection e with e;have:=HB1.out.size;have:=DW.out.size;omega
 refine⟨rfl,⟨_,GS.out,?_,hne g HB.out.lt PG.out,fun k hk=>hne k (hS.out k hk).1 (HH.out k hk)⟩,?_⟩
 · have h:=OS.out.own HO2.out (hne g HB.out.lt PG.out)
   rw [List.length_append,List.map_append]
   simpa using h
 · exact ((Keep.below DW.out).trans (Keep.below HB1.out)).trans ((Keep.grown HG2.out (fun k hk e=>HH.out k hk e.symm)).trans (Keep.only OS.out (fun hk=>(hS.out g hk).2 rfl)))
theorem pen_int (H:Nat→Prop) (g:Nat) (xs:List Nat) (n:Int) (w:World) (hp:Hid (Pen H g xs w)) (hS:Hid (Safe H g w)) (n1 : -9223372036854775808≤n) (n2:n≤9223372036854775807) (hl:xs.length≤70000000000000) :
 Calls Tryz.prog 107 #[.pointer (some ⟨g,0,none⟩),.int .i64 n] w (RetPen H g (xs ++ putN (zz n)) (.int .i64 n) w):=by
 obtain⟨pv,hB,hO,hg,hh⟩:=hp.out.out
 obtain⟨ii,hi1,hi2,hi3,hi4⟩:=info_parts Tryz.infoU8
 have y2:w.cell? ⟨g,2,none⟩=some (.bool true):=hB.cell 2
 have HB:=Lh hB
 have HO:=Lh hO
 have PG:=Lh hg
 have HH:=Lh hh
 clear hB hO hg hh
 go_enter Tryz.func107,Tryz.ntmps107
 go_wp2
 refine wp_region_late (S0:=fun _=>True) (S:=fun w'=>w'.cell? ⟨g,0,none⟩=some pv) 10 11 (by kernel_rfl) rfl ⟨trivial,HB.out.cell 0⟩ (fun wd hwd hH=>?_)
 have DW:=Lh (show Below w.heap.size w wd from by rw [hwd];exact (Below.refl _ _).drew)
 clear hwd y2
 have GD:=Lh (HB.out.below DW.out HB.out.lt)
 have OD:=Lh (show wd.ownsRow 0 5 1 pv xs.length (xs.map bv) from HO.out.kept (row:=none) ⟨DW.out.os,DW.out.tape,DW.out.output,DW.out.size,fun k hk _=>DW.out.block k hk⟩ (by cases pv.ownBlock <;> simp))
 refine tS 0 rfl ?_ hH ?_ ?_
 rotate_left
 · (intro wx hx;go_simp <;> with_reducible rfl)
 try simp only [Act.put,pA9,pZ9,pS9]
 refine tS 1 rfl ?_ hH ?_ ?_
 rotate_left
 · (intro wx hx;go_simp <;> with_reducible rfl)
 try simp only [Act.put,pA9,pZ9,pS9]
 refine tS 2 rfl ?_ hH ?_ ?_
 rotate_left
 · (intro wx hx;go_simp <;> with_reducible rfl)
 try simp only [Act.put,pA9,pZ9,pS9]
 refine tS 3 rfl ?_ hH ?_ ?_
 rotate_left
 · (intro wx hx;go_simp <;> with_reducible rfl)
 try simp only [Act.put,pA9,pZ9,pS9]
 refine wpAnyT_take 4 (v:=?_) rfl (by kernel_rfl) (fun _ _ _ h=>h) (Or.inl ⟨by rfl,?_⟩) hH ?_
 rotate_left
 · (intro wx hx;go_simp <;> with_reducible rfl)
 try simp only [Act.put,pA9,pZ9,pS9]
 refine tS 5 rfl ?_ hH ?_ ?_
 rotate_left
 · (intro wx hx;go_simp <;> with_reducible rfl)
 try simp only [Act.put,pA9,pZ9,pS9]
 refine wpAnyT_one 6 rfl (by kernel_rfl) (fun K hK=>?_)
 go_simp
 (go_at_call 137;refine (rputint_any none 0 0 n [] _ Reads.none_ (fun u hu=>by cases hu) n1 n2 (by omega)).mono ?_;rintro e w1 hr;obtain⟨A1,cap1,rfl,r1,r2,r3,hb,-⟩:=hr.open;have R1:=Lh r1;have HB1:=Lh hb;clear r1 hb)
 refine hK.out _ _ ?_ (fun hH6=>?_)
 · exact⟨trivial,(HB1.out.cell (p:=⟨g,0,none⟩) GD.out.lt).trans (GD.out.cell 0)⟩
 clear hK K
 try simp only [Act.put,pA9,pZ9,pS9]
 refine wpAnyT_one 7 rfl (by kernel_rfl) (fun K hK=>?_)
 refine step_append_any w1 rfl (.tmp 16) (.tmp 18) _ rfl 0 5 ii _ 1 1 Tryz.underlying77 hi1 hi2 hi3 hi4 rfl (by decide) pv xs.length (xs.map bv) rfl (OD.out.kept (row:=none) ⟨HB1.out.os,HB1.out.tape,HB1.out.output,HB1.out.size,fun k hk _=>HB1.out.block k hk⟩ (by cases pv.ownBlock <;> simp)) _ A1 _ cap1 _ rfl R1.out ?_ ?_ ?_ (Nat.zero_le _) ?_
 · exact (fun u hu=>bv_one (putN (zz n)) u (by simpa using hu))
 · (have:=putN_len1 (zz n) (zz_lt n1 n2);unfold maxLen;simp at *;omega)
 · (have:=putN_len1 (zz n) (zz_lt n1 n2);simp at *;omega)
 intro pv2 w2 ho2 hg2 hv2
 obtain⟨PA,pn,pc,rfl⟩:∃PA pn pc,pv2 = .slice PA pn pc:=(by obtain⟨x,y,e,_⟩:=own_slice ho2;exact⟨_,_,_,e⟩)
 have HO2:=Lh ho2
 have HG2:=Lh hg2
 have HV2:=Lh hv2
 clear ho2 hg2 hv2
 have GB:=Lh ((GD.out.below HB1.out GD.out.lt).grown HG2.out (fun e=>PG.out e.symm))
 have z0:w2.cell? ⟨g,0,none⟩=some pv:=GB.out.cell 0
 have z1:w2.frozen? ⟨g,0,none⟩=false:=GB.out.frozen 0
 refine hK.out _ _ ?_ (fun hH7=>?_)
 · exact⟨trivial,z0⟩
 clear hK K
 try simp only [Act.put]
 refine tS 8 rfl ?_ hH7 ?_ ?_
 rotate_left
 · (intro wx hx;go_simp <;> with_reducible rfl)
 try simp only [Act.put,pA9,pZ9,pS9]
 refine tS 9 rfl ?_ hH7 ?_ ?_
 rotate_left
 · (intro wx hx;go_simp <;> with_reducible rfl)
 try simp only [Act.put,pA9,pZ9,pS9]
 refine wpAnyT_last 10 rfl (by kernel_rfl) (by decide) (fun K hK=>?_)
 go_simp
 refine hK.out _ _ ?_ (fun hH10=>?_)
 · trivial
 clear hK K
 try simp only [Act.put,pA9,pZ9,pS9]
 refine wpAnyT_done (by kernel_rfl) ?_ _
 have GS:=Lh (GB.out.set_ 0 (.slice PA pn pc))
 have OS:=Lh (Only.set_ w2 g 0 (.slice PA pn pc))
 obtain⟨w3,hw3⟩:∃w3,w2.setCell ⟨g,0,none⟩ (.slice PA pn pc)=w3:=⟨_,rfl⟩
 rw [hw3] at GS OS ⊢
 clear hw3 z0 z1
 clear hH hH6 hH7 hH10
 go_wp2
 go_ret
 have lo:∀k,pv.ownBlock=some k→k<w.heap.size:=fun k e=>(HO.out.lt k e).2
 have hne:∀k,k<w.heap.size→pv.ownBlock≠some k→(Value.slice PA pn pc).ownBlock≠some k:=fun k hk hn e=>by
  rcases HV2.out with h | h
  · exact hn (h.symm.trans e)
  · rw [h] at e;injection e with e;have:=HB1.out.size;have:=DW.out.size;omega
 refine⟨rfl,⟨_,GS.out,?_,hne g HB.out.lt PG.out,fun k hk=>hne k (hS.out k hk).1 (HH.out k hk)⟩,?_⟩
 · have h:=OS.out.own HO2.out (hne g HB.out.lt PG.out)
   rw [List.length_append,List.map_append]
   simpa using h
 · exact ((Keep.below DW.out).trans (Keep.below HB1.out)).trans ((Keep.grown HG2.out (fun k hk e=>HH.out k hk e.symm)).trans (Keep.only OS.out (fun hk=>(hS.out g hk).2 rfl)))
theorem pen_flag (H:Nat→Prop) (g:Nat) (xs:List Nat) (b:Bool) (w:World) (hp:Hid (Pen H g xs w)) (hS:Hid (Safe H g w))  (hl:xs.length≤70000000000000) :
 Calls Tryz.prog 141 #[.pointer (some ⟨g,0,none⟩),.bool b] w (RetPen H g (xs ++ [b.toNat]) (.bool b) w):=by
 obtain⟨pv,hB,hO,hg,hh⟩:=hp.out.out
 obtain⟨ii,hi1,hi2,hi3,hi4⟩:=info_parts Tryz.infoU8
 have y2:w.cell? ⟨g,2,none⟩=some (.bool true):=hB.cell 2
 have HB:=Lh hB
 have HO:=Lh hO
 have PG:=Lh hg
 have HH:=Lh hh
 clear hB hO hg hh
 go_enter Tryz.func141,Tryz.ntmps141
 go_wp2
 refine wp_region_late (S0:=fun _=>True) (S:=fun w'=>w'.cell? ⟨g,0,none⟩=some pv) 10 11 (by kernel_rfl) rfl ⟨trivial,HB.out.cell 0⟩ (fun wd hwd hH=>?_)
 have DW:=Lh (show Below w.heap.size w wd from by rw [hwd];exact (Below.refl _ _).drew)
 clear hwd y2
 have GD:=Lh (HB.out.below DW.out HB.out.lt)
 have OD:=Lh (show wd.ownsRow 0 5 1 pv xs.length (xs.map bv) from HO.out.kept (row:=none) ⟨DW.out.os,DW.out.tape,DW.out.output,DW.out.size,fun k hk _=>DW.out.block k hk⟩ (by cases pv.ownBlock <;> simp))
 refine tS 0 rfl ?_ hH ?_ ?_
 rotate_left
 · (intro wx hx;go_simp <;> with_reducible rfl)
 try simp only [Act.put,pA9,pZ9,pS9]
 refine tS 1 rfl ?_ hH ?_ ?_
 rotate_left
 · (intro wx hx;go_simp <;> with_reducible rfl)
 try simp only [Act.put,pA9,pZ9,pS9]
 refine tS 2 rfl ?_ hH ?_ ?_
 rotate_left
 · (intro wx hx;go_simp <;> with_reducible rfl)
 try simp only [Act.put,pA9,pZ9,pS9]
 refine tS 3 rfl ?_ hH ?_ ?_
 rotate_left
 · (intro wx hx;go_simp <;> with_reducible rfl)
 try simp only [Act.put,pA9,pZ9,pS9]
 refine wpAnyT_take 4 (v:=?_) rfl (by kernel_rfl) (fun _ _ _ h=>h) (Or.inl ⟨by rfl,?_⟩) hH ?_
 rotate_left
 · (intro wx hx;go_simp <;> with_reducible rfl)
 try simp only [Act.put,pA9,pZ9,pS9]
 refine tS 5 rfl ?_ hH ?_ ?_
 rotate_left
 · (intro wx hx;go_simp <;> with_reducible rfl)
 try simp only [Act.put,pA9,pZ9,pS9]
 refine wpAnyT_one 6 rfl (by kernel_rfl) (fun K hK=>?_)
 go_simp
 (go_at_call 154;refine (rputflag_any b none 0 0 [] _ Reads.none_ (fun u hu=>by cases hu) (by omega)).mono ?_;rintro e w1 hr;obtain⟨A1,cap1,rfl,r1,r2,r3,hb,-⟩:=hr.open;have R1:=Lh r1;have HB1:=Lh hb;clear r1 hb)
 refine hK.out _ _ ?_ (fun hH6=>?_)
 · exact⟨trivial,(HB1.out.cell (p:=⟨g,0,none⟩) GD.out.lt).trans (GD.out.cell 0)⟩
 clear hK K
 try simp only [Act.put,pA9,pZ9,pS9]
 refine wpAnyT_one 7 rfl (by kernel_rfl) (fun K hK=>?_)
 refine step_append_any w1 rfl (.tmp 16) (.tmp 18) _ rfl 0 5 ii _ 1 1 Tryz.underlying77 hi1 hi2 hi3 hi4 rfl (by decide) pv xs.length (xs.map bv) rfl (OD.out.kept (row:=none) ⟨HB1.out.os,HB1.out.tape,HB1.out.output,HB1.out.size,fun k hk _=>HB1.out.block k hk⟩ (by cases pv.ownBlock <;> simp)) _ A1 _ cap1 _ rfl R1.out ?_ ?_ ?_ (Nat.zero_le _) ?_
 · exact (fun u hu=>bv_one [b.toNat] u (by simpa using hu))
 · (unfold maxLen;simp;omega)
 · (simp;omega)
 intro pv2 w2 ho2 hg2 hv2
 obtain⟨PA,pn,pc,rfl⟩:∃PA pn pc,pv2 = .slice PA pn pc:=(by obtain⟨x,y,e,_⟩:=own_slice ho2;exact⟨_,_,_,e⟩)
 have HO2:=Lh ho2
 have HG2:=Lh hg2
 have HV2:=Lh hv2
 clear ho2 hg2 hv2
 have GB:=Lh ((GD.out.below HB1.out GD.out.lt).grown HG2.out (fun e=>PG.out e.symm))
 have z0:w2.cell? ⟨g,0,none⟩=some pv:=GB.out.cell 0
 have z1:w2.frozen? ⟨g,0,none⟩=false:=GB.out.frozen 0
 refine hK.out _ _ ?_ (fun hH7=>?_)
 · exact⟨trivial,z0⟩
 clear hK K
 try simp only [Act.put]
 refine tS 8 rfl ?_ hH7 ?_ ?_
 rotate_left
 · (intro wx hx;go_simp <;> with_reducible rfl)
 try simp only [Act.put,pA9,pZ9,pS9]
 refine tS 9 rfl ?_ hH7 ?_ ?_
 rotate_left
 · (intro wx hx;go_simp <;> with_reducible rfl)
 try simp only [Act.put,pA9,pZ9,pS9]
 refine wpAnyT_last 10 rfl (by kernel_rfl) (by decide) (fun K hK=>?_)
 go_simp
 refine hK.out _ _ ?_ (fun hH10=>?_)
 · trivial
 clear hK K
 try simp only [Act.put,pA9,pZ9,pS9]
 refine wpAnyT_done (by kernel_rfl) ?_ _
 have GS:=Lh (GB.out.set_ 0 (.slice PA pn pc))
 have OS:=Lh (Only.set_ w2 g 0 (.slice PA pn pc))
 obtain⟨w3,hw3⟩:∃w3,w2.setCell ⟨g,0,none⟩ (.slice PA pn pc)=w3:=⟨_,rfl⟩
 rw [hw3] at GS OS ⊢
 clear hw3 z0 z1
 clear hH hH6 hH7 hH10
 go_wp2
 go_ret
 have lo:∀k,pv.ownBlock=some k→k<w.heap.size:=fun k e=>(HO.out.lt k e).2
 have hne:∀k,k<w.heap.size→pv.ownBlock≠some k→(Value.slice PA pn pc).ownBlock≠some k:=fun k hk hn e=>by
  rcases HV2.out with h | h
  · exact hn (h.symm.trans e)
  · rw [h] at e;injection e with e;have:=HB1.out.size;have:=DW.out.size;omega
 refine⟨rfl,⟨_,GS.out,?_,hne g HB.out.lt PG.out,fun k hk=>hne k (hS.out k hk).1 (HH.out k hk)⟩,?_⟩
 · have h:=OS.out.own HO2.out (hne g HB.out.lt PG.out)
   rw [List.length_append,List.map_append]
   simpa using h
 · exact ((Keep.below DW.out).trans (Keep.below HB1.out)).trans ((Keep.grown HG2.out (fun k hk e=>HH.out k hk e.symm)).trans (Keep.only OS.out (fun hk=>(hS.out g hk).2 rfl)))
theorem pen_bytes (H:Nat→Prop) (g:Nat) (xs:List Nat) (E:Option Addr) (em ec:Nat) (ys:List Nat) (w:World) (hp:Hid (Pen H g xs w)) (hS:Hid (Safe H g w)) (HE:Hid (Reads w w.heap.size 1 E em (ys.map bv))) (hem:em≤60000000000000) (hl:xs.length≤70000000000000) :
 Calls Tryz.prog 162 #[.pointer (some ⟨g,0,none⟩),.slice E em ec] w (RetPen H g (xs ++ (putN em ++ ys)) (.slice E em ec) w):=by
 obtain⟨pv,hB,hO,hg,hh⟩:=hp.out.out
 obtain⟨ii,hi1,hi2,hi3,hi4⟩:=info_parts Tryz.infoU8
 have y2:w.cell? ⟨g,2,none⟩=some (.bool true):=hB.cell 2
 have HB:=Lh hB
 have HO:=Lh hO
 have PG:=Lh hg
 have HH:=Lh hh
 clear hB hO hg hh
 go_enter Tryz.func162,Tryz.ntmps162
 go_wp2
 refine wp_region_late (S0:=fun _=>True) (S:=fun w'=>w'.cell? ⟨g,0,none⟩=some pv) 10 11 (by kernel_rfl) rfl ⟨trivial,HB.out.cell 0⟩ (fun wd hwd hH=>?_)
 have DW:=Lh (show Below w.heap.size w wd from by rw [hwd];exact (Below.refl _ _).drew)
 clear hwd y2
 have GD:=Lh (HB.out.below DW.out HB.out.lt)
 have OD:=Lh (show wd.ownsRow 0 5 1 pv xs.length (xs.map bv) from HO.out.kept (row:=none) ⟨DW.out.os,DW.out.tape,DW.out.output,DW.out.size,fun k hk _=>DW.out.block k hk⟩ (by cases pv.ownBlock <;> simp))
 refine tS 0 rfl ?_ hH ?_ ?_
 rotate_left
 · (intro wx hx;go_simp <;> with_reducible rfl)
 try simp only [Act.put,pA9,pZ9,pS9]
 refine tS 1 rfl ?_ hH ?_ ?_
 rotate_left
 · (intro wx hx;go_simp <;> with_reducible rfl)
 try simp only [Act.put,pA9,pZ9,pS9]
 refine tS 2 rfl ?_ hH ?_ ?_
 rotate_left
 · (intro wx hx;go_simp <;> with_reducible rfl)
 try simp only [Act.put,pA9,pZ9,pS9]
 refine tS 3 rfl ?_ hH ?_ ?_
 rotate_left
 · (intro wx hx;go_simp <;> with_reducible rfl)
 try simp only [Act.put,pA9,pZ9,pS9]
 refine wpAnyT_take 4 (v:=?_) rfl (by kernel_rfl) (fun _ _ _ h=>h) (Or.inl ⟨by rfl,?_⟩) hH ?_
 rotate_left
 · (intro wx hx;go_simp <;> with_reducible rfl)
 try simp only [Act.put,pA9,pZ9,pS9]
 refine tS 5 rfl ?_ hH ?_ ?_
 rotate_left
 · (intro wx hx;go_simp <;> with_reducible rfl)
 try simp only [Act.put,pA9,pZ9,pS9]
 refine wpAnyT_one 6 rfl (by kernel_rfl) (fun K hK=>?_)
 go_simp
 (go_at_call 167;refine (rputbytes_any none E 0 ec 0 em [] (ys.map bv) _ Reads.none_ (fun u hu=>by cases hu) (HE.out.later DW.out) (bv_one ys) (by omega)).mono ?_;rintro e w1 hr;obtain⟨A1,cap1,rfl,r1,r2,r3,hb,-⟩:=hr.open;have R1:=Lh r1;have HB1:=Lh hb;clear r1 hb)
 refine hK.out _ _ ?_ (fun hH6=>?_)
 · exact⟨trivial,(HB1.out.cell (p:=⟨g,0,none⟩) GD.out.lt).trans (GD.out.cell 0)⟩
 clear hK K
 try simp only [Act.put,pA9,pZ9,pS9]
 refine wpAnyT_one 7 rfl (by kernel_rfl) (fun K hK=>?_)
 refine step_append_any w1 rfl (.tmp 16) (.tmp 18) _ rfl 0 5 ii _ 1 1 Tryz.underlying77 hi1 hi2 hi3 hi4 rfl (by decide) pv xs.length (xs.map bv) rfl (OD.out.kept (row:=none) ⟨HB1.out.os,HB1.out.tape,HB1.out.output,HB1.out.size,fun k hk _=>HB1.out.block k hk⟩ (by cases pv.ownBlock <;> simp)) _ A1 _ cap1 _ rfl R1.out ?_ ?_ ?_ (Nat.zero_le _) ?_
 · exact (fun u hu=>bv_one (putN em ++ ys) u (by simpa using hu))
 · (have:=putN_len1 em (by omega);have:=HE.out.1;unfold maxLen;simp at *;omega)
 · (have:=putN_len1 em (by omega);have:=HE.out.1;simp at *;omega)
 intro pv2 w2 ho2 hg2 hv2
 obtain⟨PA,pn,pc,rfl⟩:∃PA pn pc,pv2 = .slice PA pn pc:=(by obtain⟨x,y,e,_⟩:=own_slice ho2;exact⟨_,_,_,e⟩)
 have HO2:=Lh ho2
 have HG2:=Lh hg2
 have HV2:=Lh hv2
 clear ho2 hg2 hv2
 have GB:=Lh ((GD.out.below HB1.out GD.out.lt).grown HG2.out (fun e=>PG.out e.symm))
 have z0:w2.cell? ⟨g,0,none⟩=some pv:=GB.out.cell 0
 have z1:w2.frozen? ⟨g,0,none⟩=false:=GB.out.frozen 0
 refine hK.out _ _ ?_ (fun hH7=>?_)
 · exact⟨trivial,z0⟩
 clear hK K
 try simp only [Act.put]
 refine tS 8 rfl ?_ hH7 ?_ ?_
 rotate_left
 · (intro wx hx;go_simp <;> with_reducible rfl)
 try simp only [Act.put,pA9,pZ9,pS9]
 refine tS 9 rfl ?_ hH7 ?_ ?_
 rotate_left
 · (intro wx hx;go_simp <;> with_reducible rfl)
 try simp only [Act.put,pA9,pZ9,pS9]
 refine wpAnyT_last 10 rfl (by kernel_rfl) (by decide) (fun K hK=>?_)
 go_simp
 refine hK.out _ _ ?_ (fun hH10=>?_)
 · trivial
 clear hK K
 try simp only [Act.put,pA9,pZ9,pS9]
 refine wpAnyT_done (by kernel_rfl) ?_ _
 have GS:=Lh (GB.out.set_ 0 (.slice PA pn pc))
 have OS:=Lh (Only.set_ w2 g 0 (.slice PA pn pc))
 obtain⟨w3,hw3⟩:∃w3,w2.setCell ⟨g,0,none⟩ (.slice PA pn pc)=w3:=⟨_,rfl⟩
 rw [hw3] at GS OS ⊢
 clear hw3 z0 z1
 clear hH hH6 hH7 hH10
 go_wp2
 go_ret
 have lo:∀k,pv.ownBlock=some k→k<w.heap.size:=fun k e=>(HO.out.lt k e).2
 have hne:∀k,k<w.heap.size→pv.ownBlock≠some k→(Value.slice PA pn pc).ownBlock≠some k:=fun k hk hn e=>by
  rcases HV2.out with h | h
  · exact hn (h.symm.trans e)
  · rw [h] at e;injection e with e;have:=HB1.out.size;have:=DW.out.size;omega
 refine⟨rfl,⟨_,GS.out,?_,hne g HB.out.lt PG.out,fun k hk=>hne k (hS.out k hk).1 (HH.out k hk)⟩,?_⟩
 · have h:=OS.out.own HO2.out (hne g HB.out.lt PG.out)
   rw [List.length_append,List.map_append]
   simpa using h
 · exact ((Keep.below DW.out).trans (Keep.below HB1.out)).trans ((Keep.grown HG2.out (fun k hk e=>HH.out k hk e.symm)).trans (Keep.only OS.out (fun hk=>(hS.out g hk).2 rfl)))
end
section
open Go.RowKit OctMath
def Two (H:Nat→Prop) (b:Nat):Nat→Prop:=fun k=>H k∨k=b∨k=b+1
structure Wr (t:TypeId) (H:Nat→Prop) (g b:Nat) (cs zs:Array Value) (w0:World) (ys:List Nat) (w:World):Prop where
 pen:Pen (Two H b) g ys w
 safe:Safe (Two H b) g w
 blk:Blk w b t cs
 res:Blk w (b+1) t zs
 keep:Keep H w0 w
 nb:¬H b
 nr:¬H (b+1)
section
variable {t:TypeId} {H:Nat→Prop} {g b:Nat} {cs zs:Array Value} {w0 w w':World} {ys more:List Nat} {v:Value} {e:Ending}
theorem Wr.start (hp:Pen H g ys w) (hs:Safe H g w) (cs zs:Array Value) (t:TypeId):Wr t H g w.heap.size cs zs w ys ((w.alloc (.cells cs t)).alloc (.cells zs t)) :=
 ⟨((hp.mono (H':=Two H w.heap.size) (fun k hk=>by rcases hk with h | h | h;exact .inl h;exact .inr (by omega);exact .inr (by omega))).alloc _).alloc _,
  fun k hk=>by
   have hl:=hp.lt
   rcases hk with h | h | h
   · exact⟨by have:=(hs k h).1;simp;omega,(hs k h).2⟩
   · exact⟨by simp;omega,by omega⟩
   · exact⟨by simp;omega,by omega⟩,
  (Blk.new _ _ _).alloc _,by have h:=Blk.new (w.alloc (.cells cs t)) t zs;simpa using h,
  ((Keep.refl H w).alloc _).alloc _,fun h=>by have:=(hs _ h).1;omega,fun h=>by have:=(hs _ h).1;omega⟩
theorem Wr.call (h:Wr t H g b cs zs w0 ys w) (hr:RetPen (Two H b) g (ys ++ more) v w e w'):Wr t H g b cs zs w0 (ys ++ more) w':=by
 obtain⟨_,hp,hk⟩:=hr
 exact⟨hp,fun k hq=>⟨Nat.lt_of_lt_of_le (h.safe k hq).1 hk.size,(h.safe k hq).2⟩,hk.blk h.blk (.inr (.inl rfl)),hk.blk h.res (.inr (.inr rfl)),h.keep.trans (hk.mono fun k hq => .inl hq),h.nb,h.nr⟩
theorem Wr.only {k:Nat} {cs' zs':Array Value} (h:Wr t H g b cs zs w0 ys w) (hk:Two H b k) (hn:¬H k) (ho:Only k w w') (h1:Blk w' b t cs') (h2:Blk w' (b+1) t zs'):Wr t H g b cs' zs' w0 ys w' :=
 ⟨h.pen.only ho hk (h.safe k hk).2,fun j hj=>⟨by rw [ho.size];exact (h.safe j hj).1,(h.safe j hj).2⟩,h1,h2,h.keep.trans (Keep.only ho hn),h.nb,h.nr⟩
end
theorem pen_len (H:Nat→Prop) (g:Nat) (xs:List Nat) (n:Nat) (w:World) (hp:Hid (Pen H g xs w)) (hS:Hid (Safe H g w)) (hn:n<9223372036854775808) (hl:xs.length≤70000000000000) :
 Calls Tryz.prog 139 #[.pointer (some ⟨g,0,none⟩),.int .i64 n] w (RetPen H g (xs ++ putN n) (.int .i64 n) w):=by
 have e1:IntKind.u64.wrap (n:Int)=(n:Int):=IntWalk.u64_in _ (by omega)
 go_enter Tryz.func139,Tryz.ntmps139
 go_wp2_with (go_at_call 114;refine (pen_u64 H g xs n _ hp hS (by omega) hl).mono ?_;rintro e w1 ⟨rfl,p1,k1⟩;have P1:=Lh p1;have K1:=Lh k1;have y2:w1.cell? ⟨g,2,none⟩=some (.bool true):=(by obtain⟨v,hB,_⟩:=p1.out;exact hB.cell 2);clear p1 k1)
 go_ret
 exact⟨rfl,P1.out,K1.out⟩
theorem pen_u32 (H:Nat→Prop) (g:Nat) (xs:List Nat) (n:Nat) (w:World) (hp:Hid (Pen H g xs w)) (hS:Hid (Safe H g w)) (hn:n<4294967296) (hl:xs.length≤70000000000000) :
 Calls Tryz.prog 153 #[.pointer (some ⟨g,0,none⟩),.int .u32 n] w (RetPen H g (xs ++ putN n) (.int .u32 n) w):=by
 have e0:(n:Int) / 4294967296=0:=by omega
 go_enter Tryz.func153,Tryz.ntmps153
 go_wp2_with (go_at_call 114;refine (pen_u64 H g xs n _ hp hS (by omega) hl).mono ?_;rintro e w1 ⟨rfl,p1,k1⟩;have P1:=Lh p1;have K1:=Lh k1;clear p1 k1)
 go_ret
 exact⟨rfl,P1.out,K1.out⟩
def octs (s:ByteArray):List Nat:=s.data.toList.map (·.toNat)
theorem octs_len (s:ByteArray):(octs s).length=s.size:=by unfold octs;rw [List.length_map,Array.length_toList];rfl
theorem strOf_octs (s:ByteArray):strOf (octs s)=s:=by
 unfold strOf octs
 rw [List.map_map,show (UInt8.ofNat ∘ fun b:UInt8=>b.toNat)=id from by funext b;simp,List.map_id]
theorem octs_bel (w:World) (e:TypeId) (s:ByteArray):Below w.heap.size w (Lib.bytesWorld w e s):=by
 have h:Below w.heap.size w (w.drew.alloc (.cells (Lib.bytesCells w e s) e)):=((Below.refl _ _).drew).alloc (Nat.le_refl _) _
 exact⟨h.os,h.tape,h.output,by rw [Lib.bytesWorld_size];omega,fun j hj=>Lib.bytesWorld_at_old w e s j hj⟩
theorem octs_reads (w:World) (e:TypeId) (s:ByteArray):Reads (Lib.bytesWorld w e s) (w.heap.size+1) 1 (some ⟨w.heap.size,0,none⟩) s.size ((octs s).map bv):=by
 refine⟨by rw [List.length_map,octs_len];omega,fun _=>⟨_,rfl,Nat.lt_succ_self _,fun j u hu=>?_⟩⟩
 have hj:j<s.size:=by
  rw [← octs_len s,← List.length_map (f:=bv)]
  exact (List.getElem?_eq_some_iff.1 hu).1
 have h5:(⟨w.heap.size,0,none⟩:Addr).add j=⟨w.heap.size,j,none⟩:=by unfold Addr.add;split <;> simp_all
 rw [h5,Lib.bytesWorld_cell w e s j hj,← hu]
 have hj':j<s.data.toList.length:=by rw [Array.length_toList];exact hj
 simp only [octs,List.getElem?_map,List.getElem?_eq_getElem hj',Option.map_some,bv,List.getD_eq_getElem?_getD,Option.getD_some]
theorem pen_text (H:Nat→Prop) (g:Nat) (xs:List Nat) (key:ByteArray) (w:World) (hp:Hid (Pen H g xs w)) (hS:Hid (Safe H g w)) (hk:key.size≤60000000000000) (hl:xs.length≤70000000000000) :
 Calls Tryz.prog 152 #[.pointer (some ⟨g,0,none⟩),.string key] w (RetPen H g (xs ++ (putN key.size ++ octs key)) (.string key) w):=by
 have kc:=fun W:World=>Lib.run_convert_string_bytes (P:=Tryz.prog) W 9 77 5 key Tryz.underlying9 Tryz.underlying77 Tryz.underlying5
 have hb:=octs_bel w 5 key
 have hr:=octs_reads w 5 key
 have sz:(Lib.bytesWorld w 5 key).heap.size=w.heap.size+1:=Lib.bytesWorld_size w 5 key
 have HP:Hid (Pen (fun k=>H k∨k=w.heap.size) g xs (Lib.bytesWorld w 5 key)):=Lh ((hp.out.mono fun k hk=>by rcases hk with h | h;exact .inl h;exact .inr (by omega)).later hb)
 have HS:Hid (Safe (fun k=>H k∨k=w.heap.size) g (Lib.bytesWorld w 5 key)):=Lh fun k hk=>by
  have hg:=hp.out.lt
  rcases hk with h | h
  · exact⟨by have:=(hS.out k h).1;omega,(hS.out k h).2⟩
  · exact⟨by omega,by omega⟩
 have HR:=Lh (hr.more (B':=(Lib.bytesWorld w 5 key).heap.size) (by rw [sz];omega))
 have HB:=Lh hb
 clear hb hr sz
 obtain⟨gc,hgc⟩:∃gc,grownCap w key.size 0 5=gc:=⟨_,rfl⟩
 have kc1:=kc w
 rw [hgc] at kc1
 clear kc
 go_enter Tryz.func152,Tryz.ntmps152
 go_wp2_with (go_at_call 162;refine (pen_bytes _ g xs (some ⟨w.heap.size,0,none⟩) key.size gc (octs key) _ HP HS HR (by omega) hl).mono ?_;rintro e w1 ⟨rfl,p1,k1⟩;have P1:=Lh p1;have K1:=Lh k1;have kc2:=run_conv_bytes (P:=Tryz.prog) (src:=77) (dst:=9) (cap:=gc) Tryz.underlying77 Tryz.underlying5 Tryz.underlying9 (k1.reads HR.out (fun _ ad e=>by injection e with e;rw [← e];exact .inr rfl));rw [strOf_octs] at kc2;clear p1 k1 kc1)
 go_ret
 exact⟨rfl,P1.out.mono fun k hk => .inl (.inl hk),(Keep.below HB.out).trans (K1.out.mono fun k hk => .inl hk)⟩
end
section
open Go.RowKit OctMath
section
variable {P:Program} {l:List Oper} {md:Region.Mode} {Q:Exit→Act→World→Prop} {S0 S S0' S':World→Prop} {s:Nat}
theorem wpAnyT_mono (h0:∀w,S0' w→S0 w) (h1:∀w,S' w→S w):∀ (fuel:Nat) (listed:Array Bool) (a:Act) (w:World),wpAnyT P md l Q S0' S' s fuel listed a w→wpAnyT P md l Q S0 S s fuel listed a w
 | 0,_,_,_,h=>h
 | fuel+1,_,_,_,h=>⟨h.1,fun i hi=>wpOp_mono (fun a' w' h'=>⟨⟨h0 _ h'.1.1,fun q=>h1 _ (h'.1.2 q)⟩,wpAnyT_mono h0 h1 fuel _ a' w' h'.2⟩) (h.2 i hi)⟩
end
def RetO (ys:List Nat) (w:World) (e:Ending) (w':World):Prop:=∃A cap,e = .returned (.slice A ys.length cap)∧Reads w' w'.heap.size 1 A ys.length (ys.map bv)∧Below w.heap.size w w'
theorem pen_writer (A:Option Addr) (n cap:Nat) (xs:List Nat) (w:World) (hr:Reads w w.heap.size 1 A n (xs.map bv)) (hm:n≤140737488351232) :
 Calls Tryz.prog 73 #[.slice A n cap] w (fun e w'=>∃g,e = .returned (.pointer (some ⟨g,0,none⟩))∧w.heap.size≤g∧Below w.heap.size w w'∧Pen (fun k=>k<w.heap.size) g xs w'):=by
 have hn:xs.length=n:=by simpa using hr.1
 go_enter Tryz.func73,Tryz.ntmps73
 go_wp2_with (at_builtin
              refine wpl_append rfl (.tmp 3) (.tmp 4) _ rfl w w.heap.size 5 _ 1 1 Tryz.underlying77 Tryz.infoU8 rfl (by decide) (.slice (some ⟨w.heap.size,0,none⟩) 0 0) 0 [] rfl ?own (w.heap.size+1) A n cap (xs.map bv) rfl ?rd (bv_one xs) (by omega) (by decide) ?bel ?base ?_
              case own=>exact World.ownsRow_lit _ #[] 0 (Nat.le_refl _) (by unfold maxLen;omega) rfl
              case rd=>exact (hr.alloc (Nat.le_refl _) _).more (by simp)
              case bel=>exact (Below.refl _ _).alloc (Nat.le_refl _) _
              case base=>simp
              intro v1 w1 hh
              obtain⟨PA,pn,pc,rfl⟩:∃PA pn pc,v1 = .slice PA pn pc:=(by obtain⟨x,y,e,_⟩:=own_slice hh.out.1;exact⟨_,_,_,e⟩))
 go_ret
 obtain⟨h1,h2,h3⟩:=hh.out
 refine⟨w1.heap.size,rfl,h3,h2.alloc h3 _,⟨_,Blk.new _ _ _,?_,fun e=>by have:=(h1.lt _ e).2;omega,fun k hk e=>by have:=(h1.lt _ e).1;omega⟩⟩
 have h:=own_baseO h1 (Nat.zero_le _)
 rw [hn]
 simpa using h.alloc _
end
section
open Go.RowKit OctMath
def Not (g:Nat):Nat→Prop:=fun k=>k≠g
end
section
open Go.RowKit OctMath
structure Lst (lo size:Nat) (A:Option Addr) (c k:Nat) (xs:List Value) (w:World):Prop where
 rd:Reads w w.heap.size size A k xs
 lo:0<k→∀ad,A=some ad→lo≤ad.block
 kc:k≤c
 cm:c≤maxLen
def Apart (y k:Nat) (A:Option Addr):Prop:=0<k→∀ad,A=some ad→ad.block≠y
theorem Lst.mono {lo lo' size:Nat} {A:Option Addr} {c k:Nat} {xs:List Value} {w:World} (h:Lst lo size A c k xs w) (hl:lo'≤lo):Lst lo' size A c k xs w:=⟨h.rd,fun h0 ad e=>Nat.le_trans hl (h.lo h0 ad e),h.kc,h.cm⟩
theorem Lst.alloc {lo size:Nat} {A:Option Addr} {c k:Nat} {xs:List Value} {w:World} (h:Lst lo size A c k xs w) (o:Obj):Lst lo size A c k xs (w.alloc o):=⟨h.rd.later ((Below.refl _ _).alloc (Nat.le_refl _) o),h.lo,h.kc,h.cm⟩
theorem Lst.only {lo size:Nat} {A:Option Addr} {c k:Nat} {xs:List Value} {w w':World} (h:Lst lo size A c k xs w) {y:Nat} (ho:Only y w w') (ha:Apart y k A):Lst lo size A c k xs w':=by
 have hk:Keep (fun b=>b≠y) w w':=Keep.only ho (fun h=>h rfl)
 exact⟨hk.reads h.rd ha,h.lo,h.kc,h.cm⟩
end
section
open Go.RowKit OctMath
structure Md (σ:Type) where
 g:Nat
 write:Bool
 bad:σ→Bool
 fit:σ→Nat→Prop
 St:σ→World→Prop
 dep:World→Nat→Prop
 wr:World→Nat→Prop
 u64:σ→Nat→σ×Nat
 u32:σ→Nat→σ×Nat
 int:σ→Int→σ×Int
 flag:σ→Bool→σ×Bool
 text:σ→List Nat→σ×List Nat
 len:σ→Nat→σ×Nat
variable {σ:Type}
structure Stp (M:Md σ) (w w':World):Prop where
 os:w'.os=w.os
 tape:w'.tape=w.tape
 output:w'.output=w.output
 size:w.heap.size≤w'.heap.size
 block:∀k,k<w.heap.size→¬M.wr w k→w'.heap[k]?=w.heap[k]?
 dep:∀k,k<w.heap.size→M.dep w' k→M.dep w k
 wr:∀k,k<w.heap.size→M.wr w' k→M.wr w k
theorem Stp.refl (M:Md σ) (w:World):Stp M w w:=⟨rfl,rfl,rfl,Nat.le_refl _,fun _ _ _=>rfl,fun _ _ h=>h,fun _ _ h=>h⟩
theorem Stp.trans {M:Md σ} {w w' w'':World} (h:Stp M w w') (k:Stp M w' w''):Stp M w w'' :=
 ⟨k.os.trans h.os,k.tape.trans h.tape,k.output.trans h.output,Nat.le_trans h.size k.size,fun i hi hn=>(k.block i (Nat.lt_of_lt_of_le hi h.size) (fun e=>hn (h.wr i hi e))).trans (h.block i hi hn),
  fun i hi e=>h.dep i hi (k.dep i (Nat.lt_of_lt_of_le hi h.size) e),fun i hi e=>h.wr i hi (k.wr i (Nat.lt_of_lt_of_le hi h.size) e)⟩
structure Free (M:Md σ) (k:Nat) (w:World):Prop where
 lt:k<w.heap.size
 dep:¬M.dep w k
 wr:¬M.wr w k
theorem Free.step {M:Md σ} {k:Nat} {w w':World} (h:Free M k w) (s:Stp M w w'):Free M k w':=⟨Nat.lt_of_lt_of_le h.lt s.size,fun e=>h.dep (s.dep k h.lt e),fun e=>h.wr (s.wr k h.lt e)⟩
def RetP (M:Md σ) (s':σ) (v:Value) (w:World) (e:Ending) (w':World):Prop:=e = .returned v∧M.St s' w'∧Stp M w w'
def Dq (M:Md σ) (w w':World):Prop:=(∀k,M.dep w' k↔M.dep w k)∧∀k,M.wr w' k↔M.wr w k
structure MdOk (M:Md σ):Prop where
 gwr:∀ {s:σ} {w:World},M.St s w→M.wr w M.g
 glt:∀ {s:σ} {w:World},M.St s w→M.g<w.heap.size
 cwrite:∀ {s:σ} {w:World},M.St s w→w.cell? ⟨M.g,2,none⟩=some (.bool M.write)
 cbad:∀ {s:σ} {w:World},M.St s w→w.cell? ⟨M.g,3,none⟩=some (.bool (M.bad s))
 grown:∀ {s:σ} {w w':World} {row:Option Nat},M.St s w→w.grownBy w' row→(∀k,row=some k→Free M k w)→M.St s w'∧Dq M w w'
 fresh:∀ {s:σ} {w:World},M.St s w→∀k,M.dep w k∨M.wr w k→k<w.heap.size
 mono:∀ {s:σ} {a b:Nat},M.fit s a→b≤a→M.fit s b
 f_u64:∀ {s:σ} {a x:Nat},M.fit s (a+10)→x<18446744073709551616→M.fit (M.u64 s x).1 a
 f_u32:∀ {s:σ} {a x:Nat},M.fit s (a+10)→x<4294967296→M.fit (M.u32 s x).1 a
 f_int:∀ {s:σ} {a:Nat} {x:Int},M.fit s (a+10)→I64 x→M.fit (M.int s x).1 a
 f_flag:∀ {s:σ} {a:Nat} {x:Bool},M.fit s (a+10)→M.fit (M.flag s x).1 a
 f_text:∀ {s:σ} {a:Nat} {x:List Nat},M.fit s (a+1048586)→x.length≤1048576→M.fit (M.text s x).1 a
 f_len:∀ {s:σ} {a x:Nat},M.fit s (a+10)→x<9223372036854775808→M.fit (M.len s x).1 a
 r_u64:∀ {s:σ} {x:Nat},x<18446744073709551616→(M.u64 s x).2<18446744073709551616
 r_u32:∀ {s:σ} {x:Nat},x<4294967296→(M.u32 s x).2<4294967296
 r_int:∀ {s:σ} {x:Int},I64 x→I64 (M.int s x).2
 r_text:∀ {s:σ} {x:List Nat},((∀y ∈ x,y<256)∧x.length≤1048576)→((∀y ∈ (M.text s x).2,y<256)∧(M.text s x).2.length≤1048576)
 r_len:∀ {s:σ} {x:Nat},x≤1048576→(M.len s x).2≤1048576
 wlen:M.write=true→∀ (s:σ) (x:Nat),(M.len s x).2=x
 c_u64:∀ (s:σ) (x:Nat) (w:World),Hid (M.St s w)→x<18446744073709551616→M.fit s 10→Calls Tryz.prog 114 #[.pointer (some ⟨M.g,0,none⟩),.int .u64 (x:Int)] w (RetP M (M.u64 s x).1 (.int .u64 ((M.u64 s x).2:Int)) w)
 c_u32:∀ (s:σ) (x:Nat) (w:World),Hid (M.St s w)→x<4294967296→M.fit s 10→Calls Tryz.prog 153 #[.pointer (some ⟨M.g,0,none⟩),.int .u32 (x:Int)] w (RetP M (M.u32 s x).1 (.int .u32 ((M.u32 s x).2:Int)) w)
 c_int:∀ (s:σ) (x:Int) (w:World),Hid (M.St s w)→I64 x→M.fit s 10→Calls Tryz.prog 107 #[.pointer (some ⟨M.g,0,none⟩),.int .i64 x] w (RetP M (M.int s x).1 (.int .i64 (M.int s x).2) w)
 c_flag:∀ (s:σ) (x:Bool) (w:World),Hid (M.St s w)→M.fit s 10→Calls Tryz.prog 141 #[.pointer (some ⟨M.g,0,none⟩),.bool x] w (RetP M (M.flag s x).1 (.bool (M.flag s x).2) w)
 c_text:∀ (s:σ) (x:List Nat) (w:World),Hid (M.St s w)→((∀y ∈ x,y<256)∧x.length≤1048576)→M.fit s 1048586→Calls Tryz.prog 152 #[.pointer (some ⟨M.g,0,none⟩),.string (strOf x)] w (RetP M (M.text s x).1 (.string (strOf (M.text s x).2)) w)
 c_len:∀ (s:σ) (x:Nat) (w:World),Hid (M.St s w)→x<9223372036854775808→M.fit s 10→Calls Tryz.prog 139 #[.pointer (some ⟨M.g,0,none⟩),.int .i64 (x:Int)] w (RetP M (M.len s x).1 (.int .i64 ((M.len s x).2:Int)) w)
structure Wk (M:Md σ) (w0:World) (s:σ) (w:World):Prop where
 st:M.St s w
 stp:Stp M w0 w
theorem Wk.start {M:Md σ} {s:σ} {w:World} (h:M.St s w):Wk M w s w:=⟨h,Stp.refl M w⟩
theorem Wk.call {M:Md σ} {w0 w w':World} {s s':σ} (h:Wk M w0 s w) (h1:M.St s' w') (h2:Stp M w w'):Wk M w0 s' w':=⟨h1,h.stp.trans h2⟩
theorem Wk.grown {M:Md σ} (hM:MdOk M) {w0 w w':World} {s:σ} {row:Option Nat} (h:Wk M w0 s w) (hg:w.grownBy w' row) (hr:∀k,row=some k→Free M k w∧w0.heap.size≤k):Wk M w0 s w':=by
 obtain⟨a,b,c⟩:=hM.grown h.st hg (fun k e=>(hr k e).1)
 exact⟨a,⟨hg.os.trans h.stp.os,hg.tape.trans h.stp.tape,hg.output.trans h.stp.output,Nat.le_trans h.stp.size hg.size,fun k hk hn=>(hg.block k (Nat.lt_of_lt_of_le hk h.stp.size) (fun e=>by have:=(hr k e.symm).2;omega)).trans (h.stp.block k hk hn),
  fun k hk e=>h.stp.dep k hk ((b k).1 e),fun k hk e=>h.stp.wr k hk ((c k).1 e)⟩⟩
theorem below_grown {w w':World} (h:Below w.heap.size w w'):w.grownBy w' none:=⟨h.os,h.tape,h.output,h.size,fun k hk _=>h.block k hk⟩
theorem Wk.alloc {M:Md σ} (hM:MdOk M) {w0 w:World} {s:σ} (h:Wk M w0 s w) (o:Obj):Wk M w0 s (w.alloc o):=h.grown hM (row:=none) (below_grown ((Below.refl _ _).alloc (Nat.le_refl _) o)) (fun k e=>by cases e)
theorem Wk.later {M:Md σ} (hM:MdOk M) {w0 w w':World} {s:σ} (h:Wk M w0 s w) (hb:Below w.heap.size w w'):Wk M w0 s w':=h.grown hM (row:=none) (below_grown hb) (fun k e=>by cases e)
theorem Free.grown {M:Md σ} (hM:MdOk M) {w w':World} {s:σ} {row:Option Nat} {k:Nat} (h:Free M k w) (hs:M.St s w) (hg:w.grownBy w' row) (hr:∀k,row=some k→Free M k w):Free M k w':=by
 obtain⟨a,b,c⟩:=hM.grown hs hg hr
 exact⟨Nat.lt_of_lt_of_le h.lt hg.size,fun e=>h.dep ((b k).1 e),fun e=>h.wr ((c k).1 e)⟩
structure Bk (M:Md σ) (w0:World) (b:Nat) (t:TypeId) (cs:Array Value) (w:World):Prop where
 blk:Blk w b t cs
 free:Free M b w
 lo:w0.heap.size≤b
theorem Bk.call {M:Md σ} {w0 w w':World} {b:Nat} {t:TypeId} {cs:Array Value} (h:Bk M w0 b t cs w) (s:Stp M w w'):Bk M w0 b t cs w':=⟨(s.block b h.free.lt h.free.wr).trans h.blk,h.free.step s,h.lo⟩
theorem Bk.grown {M:Md σ} (hM:MdOk M) {w0 w w':World} {s:σ} {b:Nat} {t:TypeId} {cs:Array Value} {row:Option Nat} (h:Bk M w0 b t cs w) (hs:M.St s w) (hg:w.grownBy w' row) (hr:∀k,row=some k→Free M k w) (hne:row≠some b):Bk M w0 b t cs w' :=
 ⟨(hg.block b h.free.lt (fun e=>hne e.symm)).trans h.blk,h.free.grown hM hs hg hr,h.lo⟩
theorem Bk.alloc {M:Md σ} (hM:MdOk M) {w0 w:World} {s:σ} {b:Nat} {t:TypeId} {cs:Array Value} (h:Bk M w0 b t cs w) (hs:M.St s w) (o:Obj):Bk M w0 b t cs (w.alloc o):=h.grown hM hs (row:=none) (below_grown ((Below.refl _ _).alloc (Nat.le_refl _) o)) (fun k e=>by cases e) (by simp)
theorem Bk.only {M:Md σ} (hM:MdOk M) {w0 w w':World} {s:σ} {b k:Nat} {t:TypeId} {cs:Array Value} (h:Bk M w0 b t cs w) (hs:M.St s w) (ho:Only k w w') (hk:Free M k w) (hne:b≠k):Bk M w0 b t cs w' :=
 h.grown hM hs ho.grown (fun j e=>by injection e with e;rwa [← e]) (fun e=>hne (by injection e with e;exact e.symm))
theorem Bk.turn {M:Md σ} (hM:MdOk M) {w0 w w':World} {s:σ} {b:Nat} {t:TypeId} {cs cs':Array Value} (h:Bk M w0 b t cs w) (hs:M.St s w) (ho:Only b w w') (hB:Blk w' b t cs'):Bk M w0 b t cs' w' :=
 ⟨hB,h.free.grown hM hs ho.grown (fun j e=>by injection e with e;rw [← e];exact h.free),h.lo⟩
theorem Wk.only {M:Md σ} (hM:MdOk M) {w0 w w':World} {s:σ} {b:Nat} {t:TypeId} {cs:Array Value} (h:Wk M w0 s w) (hb:Bk M w0 b t cs w) (ho:Only b w w'):Wk M w0 s w':=h.grown hM ho.grown (fun k e=>by injection e with e;rw [← e];exact⟨hb.free,hb.lo⟩)
theorem Bk.new {M:Md σ} (hM:MdOk M) {w0 w:World} {s:σ} (h:Wk M w0 s w) (cs:Array Value) (t:TypeId):Bk M w0 w.heap.size t cs (w.alloc (.cells cs t)):=by
 have hg:w.grownBy (w.alloc (.cells cs t)) none:=below_grown ((Below.refl _ _).alloc (Nat.le_refl _) _)
 obtain⟨a,b,c⟩:=hM.grown h.st hg (fun k e=>by cases e)
 exact⟨Blk.new w _ _,⟨by simp,fun e=>Nat.lt_irrefl _ (hM.fresh h.st _ (.inl ((b _).1 e))),fun e=>Nat.lt_irrefl _ (hM.fresh h.st _ (.inr ((c _).1 e)))⟩,h.stp.size⟩
structure Ls (M:Md σ) (size:Nat) (A:Option Addr) (n:Nat) (xs:List Value) (w:World):Prop where
 rd:Reads w w.heap.size size A n xs
 free:0<n→∀ad,A=some ad→Free M ad.block w
theorem Ls.call {M:Md σ} {size n:Nat} {A:Option Addr} {xs:List Value} {w w':World} (h:Ls M size A n xs w) (s:Stp M w w'):Ls M size A n xs w':=by
 refine⟨⟨h.rd.1,fun hn=>?_⟩,fun hn ad e=>(h.free hn ad e).step s⟩
 obtain⟨ad,e,hb,hc⟩:=h.rd.2 hn
 have hf:=h.free hn ad e
 refine⟨ad,e,Nat.lt_of_lt_of_le hb s.size,fun j u hu=>?_⟩
 rw [← hc j u hu]
 refine World.cell?_of_block ?_
 rw [block_of_add]
 exact s.block _ hf.lt hf.wr
theorem Ls.grown {M:Md σ} (hM:MdOk M) {s:σ} {size n:Nat} {A:Option Addr} {xs:List Value} {w w':World} {row:Option Nat} (h:Ls M size A n xs w) (hs:M.St s w) (hg:w.grownBy w' row) (hr:∀k,row=some k→Free M k w) (hne:0<n→∀ad,A=some ad→row≠some ad.block):Ls M size A n xs w':=by
 refine⟨⟨h.rd.1,fun hn=>?_⟩,fun hn ad e=>(h.free hn ad e).grown hM hs hg hr⟩
 obtain⟨ad,e,hb,hc⟩:=h.rd.2 hn
 refine⟨ad,e,Nat.lt_of_lt_of_le hb hg.size,fun j u hu=>?_⟩
 rw [← hc j u hu]
 refine World.cell?_of_block ?_
 rw [block_of_add]
 exact hg.block _ hb (fun e'=>hne hn ad e e'.symm)
theorem Ls.alloc {M:Md σ} (hM:MdOk M) {s:σ} {size n:Nat} {A:Option Addr} {xs:List Value} {w:World} (h:Ls M size A n xs w) (hs:M.St s w) (o:Obj):Ls M size A n xs (w.alloc o):=h.grown hM hs (row:=none) (below_grown ((Below.refl _ _).alloc (Nat.le_refl _) o)) (fun k e=>by cases e) (fun _ _ _=>by simp)
theorem Ls.later {M:Md σ} (hM:MdOk M) {s:σ} {size n:Nat} {A:Option Addr} {xs:List Value} {w w':World} (h:Ls M size A n xs w) (hs:M.St s w) (hb:Below w.heap.size w w'):Ls M size A n xs w':=h.grown hM hs (row:=none) (below_grown hb) (fun k e=>by cases e) (fun _ _ _=>by simp)
theorem Ls.only {M:Md σ} (hM:MdOk M) {s:σ} {size n b:Nat} {A:Option Addr} {xs:List Value} {w w':World} (h:Ls M size A n xs w) (hs:M.St s w) (ho:Only b w w') (hf:Free M b w) (ha:Apart b n A):Ls M size A n xs w' :=
 h.grown hM hs ho.grown (fun j e=>by injection e with e;rwa [← e]) (fun hn ad e e'=>ha hn ad e (by injection e' with e';exact e'.symm))
theorem Ls.apart {M:Md σ} {size n b:Nat} {A:Option Addr} {xs:List Value} {w:World} (h:Ls M size A n xs w) (hb:w.heap.size≤b):Apart b n A:=fun hn ad e=>by have:=(h.free hn ad e).lt;omega
def itF {α β:Type} (M:Md σ) (one:σ→α→σ×β) (arg:Nat→α):Nat→σ→σ×List β
 | 0,s=>(s,[])
 | k+1,s=>if M.bad (itF M one arg k s).1 then itF M one arg k s else ((one (itF M one arg k s).1 (arg k)).1,(itF M one arg k s).2 ++ [(one (itF M one arg k s).1 (arg k)).2])
def intsF (M:Md σ) (s:σ) (l:List Int):σ×List Int:=itF M M.int (fun i=>l.getD i 0) (M.len s l.length).2 (M.len s l.length).1
def bnd {α β:Type} (r:σ×α) (f:σ→α→σ×β):σ×β:=f r.1 r.2
theorem bnd_mk {α β:Type} (s:σ) (x:α) (f:σ→α→σ×β):bnd (s,x) f=f s x:=rfl
def idF (M:Md σ) (s:σ) (x:IdT):σ×IdT:=bnd (M.u64 s x.ver) fun s1 y1=>bnd (M.int s1 x.idx) fun s2 y2=>bnd (M.u64 s2 x.ep) fun s3 y3=>(s3,⟨y1,y2,y3⟩)
def memF (M:Md σ) (s:σ) (x:Int×Int):σ×(Int×Int):=bnd (M.int s x.1) fun s1 y1=>bnd (M.int s1 x.2) fun s2 y2=>(s2,(y1,y2))
def memsF (M:Md σ) (s:σ) (l:List (Int×Int)):σ×List (Int×Int):=itF M (memF M) (fun i=>l.getD i (0,0)) (M.len s l.length).2 (M.len s l.length).1
def mapF (M:Md σ) (s:σ) (x:Nat×List (Int×Int)):σ×(Nat×List (Int×Int)):=bnd (M.u64 s x.1) fun s1 y1=>bnd (memsF M s1 x.2) fun s2 y2=>(s2,(y1,y2))
end
end Go.Proofs.YtdoneomahlfkbaaGreat
