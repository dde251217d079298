/- SEARCHING A ROW: the closure that compares, the library's search, find (buttress/api.Object). (printed by gen_; The library's Clone, Insert, Delete at -/
import Derived.Test.YtdoneomahlfkbaaGreatOnc02
import Derived.Test.YtdoneomahlfkbaaGreatOnc03
set_option linter.unusedVariables false
set_option linter.unusedSimpArgs false
set_option maxRecDepth 100000
set_option maxHeartbeats 4000000
namespace Go.Proofs.YtdoneomahlfkbaaGreat
section
open Go.RowKit OctMath
def CapObj (w:World) (kb:Nat) (k:List Nat):Prop:=Blk w kb 9 #[.string (strOf k)]
def cmpObj (k:List Nat) (m:OM):Int:=cmpV (ltB (m.x.key) k) (ltB k (m.x.key))
theorem howObj (m:OM) (kb:Nat) (k:List Nat) (w:World) (hc:Hid (CapObj w kb k)) (hm:Byt m.x.key) (hk1:Byt k) :
 Calls Tryz.prog 77 #[.agg (oA m),.pointer (some ⟨kb,0,none⟩)] w fun e w'=>e = .returned (.int .i64 (cmpObj k m))∧Below w.heap.size w w':=by
 have ck:=hc.out.cell 0
 have hlt:=hc.out.lt
 simp only [List.getElem?_toArray,List.getElem?_cons_zero] at ck
 unfold oA
 go_enter Tryz.func77,Tryz.ntmps77
 go_wp2_with (go_at_call 37;refine (cmpS _ _ _ hm hk1).mono ?_;rintro e w' ⟨rfl,rfl⟩)
 go_ret
 exact⟨rfl,(Below.refl _ _).alloc (Nat.le_refl _) _⟩
def HbObj (w:World) (hb kb:Nat):Prop:=Blk w hb 82 #[.func (.func 77) #[] #[.pointer (some ⟨kb,0,none⟩)]]
theorem fnObj (m:OM) (hb kb:Nat) (k:List Nat) (w:World) (hc:Hid (CapObj w kb k)) (hh:Hid (HbObj w hb kb)) (hm:Byt m.x.key) (hk1:Byt k) :
 Calls Tryz.prog 76 #[.agg (oA m),.int .i64 0,.pointer (some ⟨hb,0,none⟩)] w fun e w'=>e = .returned (.int .i64 (cmpObj k m))∧Below w.heap.size w w':=by
 have ck:=hh.out.cell 0
 have hlt:=hh.out.lt
 simp only [List.getElem?_toArray,List.getElem?_cons_zero] at ck
 have HS:Hid ((oA m).size=7):=Lh rfl
 obtain⟨cs,ecs⟩:∃cs,oA m=cs:=⟨_,rfl⟩
 have HW:=Lh (fun W h=>howObj m kb k W h hm hk1)
 have ECS:=Lh ecs
 rw [ecs] at HS HW ⊢
 clear ecs
 have HC:Hid (CapObj _ kb k):=Lh (Blk.alloc (show Blk w kb 9 #[.string (strOf k)] from hc.out) (.cells cs 58))
 go_enter Tryz.func76,Tryz.ntmps76
 go_wp2_with (first
  | (refine wpl_load_blk rfl 58 (.tmp 3) rfl w.heap.size 58 cs _ rfl (Blk.new w _ _) Tryz.underlying58 rfl (by rw [HS.out];rfl) ?_)
  | (go_at_call 77;refine (HW.out _ HC).mono ?_;rintro e w' ⟨rfl,hb'⟩))
 have HB:=Lh hb'
 clear hb'
 go_ret
 exact⟨rfl,((Below.refl _ _).alloc (Nat.le_refl _) _).trans (HB.out.mono (by simp))⟩
theorem bsObj (A:Option Addr) (n cap:Nat) (ms:List OM) (hb kb:Nat) (k:List Nat) (w:World) (hr:Hid (Reads w w.heap.size 7 A n (ms.flatMap omCs))) (hl:Hid (ms.length=n)) (hn:n≤67108864) (hc:Hid (CapObj w kb k)) (hh:Hid (HbObj w hb kb)) (hm:Hid (∀m ∈ ms,Byt m.x.key)) (hk1:Byt k) :
 Calls Tryz.prog 75 #[.slice A n cap,.int .i64 0,.func (.func 76) #[] #[.pointer (some ⟨hb,0,none⟩)]] w fun e w'=>e = .returned (.tuple #[.int .i64 (bsP (fL (cmpObj k) ms) n:Nat),.bool (bsB (fL (cmpObj k) ms) n)])∧Below w.heap.size w w':=by
 have hll:∀m,(omCs m).length=7:=fun _=>rfl
 have HLL:=Lh hll
 clear hll
 have HCL:=Lh hc.out.lt
 have HHL:=Lh hh.out.lt
 obtain⟨f,ef⟩:∃f,fL (cmpObj k) ms=f:=⟨_,rfl⟩
 have EF:=Lh ef
 rw [ef]
 clear ef
 go_enter Tryz.func75,Tryz.ntmps75
 go_wp2_with fail
 go_loopw [9,10] (fun vi vj wr=>∃lo hi:Nat,lo≤n∧hi≤n∧vi = .int .i64 lo∧vj = .int .i64 hi∧Hid (BsI f n lo hi)∧Hid (Below w.heap.size w wr)) (fun vi vj _=>(intOf vj - intOf vi).toNat)
 case atStart=>exact⟨0,n,by omega,by omega,rfl,rfl,Lh (BsI.start f n),Lh (Below.refl _ _)⟩
 case round =>
  obtain⟨lo,hi,hlo,hhi,rfl,rfl,HI,HB⟩:=hrel
  by_cases hlt:lo<hi
  · have hcv:IntKind.u64.wrap ((lo:Int)+(hi:Int))=(lo:Int)+(hi:Int):=by rw [IntKind.wrap_u64];omega
    obtain⟨h,eh⟩:∃h,(lo+hi) / 2=h:=⟨_,rfl⟩
    have EH:=Lh eh
    have hhn:h<n:=by omega
    have hd:((lo:Int)+(hi:Int)) / 2=(h:Int):=by omega
    clear eh
    have hmsl:h<ms.length:=by have:=hl.out;omega
    obtain⟨ad,rfl,hadb,hcell⟩:=elem_cells HLL.out hr.out hmsl (by omega)
    have hfh:f h=cmpObj k ms[h]:=by rw [← EF.out];exact fL_at _ hmsl
    have hwm:=hm.out ms[h] (List.getElem_mem hmsl)
    obtain⟨m,em⟩:∃m,ms[h]=m:=⟨_,rfl⟩
    rw [em] at hcell hfh
    try rw [em] at hwm
    clear em
    have HAD:=Lh hadb
    have HC1:=Lh (fun j v hv=>(HB.out.cell (p:=(ad.add (h*7)).add j) (by rw [block_of_add,block_of_add];exact hadb)).trans (hcell j v hv))
    have HF:=Lh hfh
    have HWM:=Lh hwm
    have HN:=Lh (fun W a b=>fnObj m hb kb k W a b hwm hk1)
    have HCC:=Lh (Blk.below hc.out HB.out HCL.out)
    have HHH:=Lh (Blk.below hh.out HB.out HHL.out)
    clear hcell hfh hwm hadb hmsl
    by_cases hz:f h<0
    · have hz2:decide (cmpObj k m<0)=true:=by rw [← HF.out];exact decide_eq_true hz
      have HI2:=Lh (HI.out.up hlt (by rw [EH.out];exact hz))
      rw [EH.out] at HI2
      clear hz
      go_wp2_with (first
       | (refine wpl_load_at rfl 58 (.tmp 27) rfl (ad.add (h*7)) (omCs m) _ rfl HC1.out Tryz.underlying58 rfl rfl ?_)
       | (go_at_call 76;refine (HN.out _ HCC HHH).mono ?_;rintro e w' ⟨rfl,hb'⟩))
      have HB2:=Lh (HB.out.trans (hb'.mono HB.out.size))
      clear hb'
      go_wp2_with fail
      exact⟨⟨h+1,hi,by omega,hhi,by go_num,rfl,HI2,HB2⟩,by simp [intOf];omega⟩
    · have hz2:decide (cmpObj k m<0)=false:=by rw [← HF.out];exact decide_eq_false hz
      have HI2:=Lh (HI.out.down hlt (by rw [EH.out];exact hz))
      rw [EH.out] at HI2
      clear hz
      go_wp2_with (first
       | (refine wpl_load_at rfl 58 (.tmp 27) rfl (ad.add (h*7)) (omCs m) _ rfl HC1.out Tryz.underlying58 rfl rfl ?_)
       | (go_at_call 76;refine (HN.out _ HCC HHH).mono ?_;rintro e w' ⟨rfl,hb'⟩))
      have HB2:=Lh (HB.out.trans (hb'.mono HB.out.size))
      clear hb'
      go_wp2_with fail
      exact⟨⟨lo,h,hlo,by omega,rfl,by go_num,HI2,HB2⟩,by simp [intOf];omega⟩
  · have hp:bsP f n=lo:=HI.out.done hlt
    by_cases hln:lo<n
    · have hmsl:lo<ms.length:=by have:=hl.out;omega
      obtain⟨ad,rfl,hadb,hcell⟩:=elem_cells HLL.out hr.out hmsl (by omega)
      have hfh:f lo=cmpObj k ms[lo]:=by rw [← EF.out];exact fL_at _ hmsl
      have hwm:=hm.out ms[lo] (List.getElem_mem hmsl)
      obtain⟨m,em⟩:∃m,ms[lo]=m:=⟨_,rfl⟩
      rw [em] at hcell hfh
      try rw [em] at hwm
      clear em
      have HC1:=Lh (fun j v hv=>(HB.out.cell (p:=(ad.add (lo*7)).add j) (by rw [block_of_add,block_of_add];exact hadb)).trans (hcell j v hv))
      have HN:=Lh (fun W a b=>fnObj m hb kb k W a b hwm hk1)
      have HCC:=Lh (Blk.below hc.out HB.out HCL.out)
      have HHH:=Lh (Blk.below hh.out HB.out HHL.out)
      have hbf:bsB f n=(cmpObj k m == 0):=by unfold bsB;rw [hp,decide_eq_true hln,hfh];rfl
      have HP:=Lh (And.intro hp hbf)
      have d1:decide (lo<n)=true:=decide_eq_true hln
      obtain⟨z,ez⟩:∃z,cmpObj k m=z:=⟨_,rfl⟩
      rw [ez] at HP HN
      clear hcell hfh hwm hadb hmsl hp hbf ez
      cases e0:z == 0
      all_goals
       rw [e0] at HP
       go_wp2_with (first
        | (refine wplW (by rfl) (wp_load_at 58 (.tmp 43) rfl (ad.add (lo*7)) (omCs m) _ rfl HC1.out Tryz.underlying58 rfl rfl ?_))
        | (go_at_call 76;refine (HN.out _ HCC HHH).mono ?_;rintro e w' ⟨rfl,hb'⟩))
       have HB2:=Lh (HB.out.trans (hb'.mono HB.out.size))
       clear hb'
       go_wp2_with fail
       go_ret2
       exact⟨by rw [HP.out.1,HP.out.2];rfl,HB2.out⟩
    · have hbf:bsB f n=false:=by unfold bsB;rw [hp,decide_eq_false hln];rfl
      have HP:=Lh (And.intro hp hbf)
      clear hp hbf
      go_wp2_with fail
      go_ret2
      exact⟨by rw [HP.out.1,HP.out.2];rfl,HB.out⟩
theorem mkObj (k:List Nat) (w:World):Calls Tryz.prog 33 #[.string (strOf k)] w fun e w'=>e = .returned (.func (.func 77) #[] #[.pointer (some ⟨w.heap.size,0,none⟩)])∧CapObj w' w.heap.size k∧Below w.heap.size w w':=by
 go_enter Tryz.func33,Tryz.ntmps33
 go_wp2
 go_ret
 exact⟨rfl,Blk.new w _ _,(Below.refl _ _).alloc (Nat.le_refl _) _⟩
theorem findObj (A:Option Addr) (n cap:Nat) (ms:List OM) (kb:Nat) (k:List Nat) (w:World) (hr:Hid (Reads w w.heap.size 7 A n (ms.flatMap omCs))) (hl:Hid (ms.length=n)) (hn:n≤67108864) (hc:Hid (CapObj w kb k)) (hm:Hid (∀m ∈ ms,Byt m.x.key)) (hk1:Byt k) :
 Calls Tryz.prog 32 #[.slice A n cap,.func (.func 77) #[] #[.pointer (some ⟨kb,0,none⟩)]] w fun e w'=>e = .returned (.tuple #[.int .i64 (bsP (fL (cmpObj k) ms) n:Nat),.bool (bsB (fL (cmpObj k) ms) n)])∧Below w.heap.size w w':=by
 have HR:=Lh ((hr.out.alloc (Nat.le_refl _) (.cells #[.func (.func 77) #[] #[.pointer (some ⟨kb,0,none⟩)]] 82)).more (B':=(w.alloc (.cells #[.func (.func 77) #[] #[.pointer (some ⟨kb,0,none⟩)]] 82)).heap.size) (by simp))
 have HC:Hid (CapObj _ kb k):=Lh (Blk.alloc (show Blk w kb 9 #[.string (strOf k)] from hc.out) (.cells #[.func (.func 77) #[] #[.pointer (some ⟨kb,0,none⟩)]] 82))
 have HH:=Lh (Blk.new w 82 #[.func (.func 77) #[] #[.pointer (some ⟨kb,0,none⟩)]])
 have HB:=Lh (bsObj A n cap ms w.heap.size kb k _ HR hl hn HC HH hm hk1)
 go_enter Tryz.func32,Tryz.ntmps32
 go_wp2_with (refine HB.out.mono ?_;rintro e w' ⟨rfl,hb'⟩)
 have HB2:=Lh hb'
 clear hb'
 go_ret2
 exact⟨rfl,((Below.refl _ _).alloc (Nat.le_refl _) _).trans (HB2.out.mono (by simp))⟩
end
section
open Go.RowKit
theorem Tryz.zObj:(Tryz.prog.info? 58).map (fun i=>(i.zero,i.size,i.bytes))=some (some (.agg #[.string ⟨#[]⟩,.int .u64 0,.int .i64 0,.int .u32 0,.int .i64 0,.int .u64 0,.slice none 0 0]),7,80):=by kernel_rfl
theorem cloneObj (A:Option Addr) (n cap:Nat) (C:List Value) (w:World) (hr:Hid (Reads w w.heap.size 7 A n C)) (h1:Hid (OneC C)) (hn:n≤67108864) :
 Calls Tryz.prog 93 #[.slice A n cap] w (RetRow 58 7 n C w):=by
 have k0:=fun W:World=>Lib.run_eql_slice_nil (P:=Tryz.prog) W 29 58 A n cap 0 0 Tryz.underlying29
 cases A with
 | none =>
   have h0:n=0:=by
    rcases Nat.eq_zero_or_pos n with h | h
    · exact h
    · obtain⟨_,h1,_⟩:=hr.out.2 h;cases h1
   subst h0
   obtain rfl:C=[]:=List.eq_nil_of_length_eq_zero (by have:=hr.out.1;omega)
   go_enter Tryz.func93,Tryz.ntmps93
   go_wp2
   go_ret
   exact⟨_,rfl,⟨rfl,.inl ⟨rfl,rfl⟩⟩,Below.refl _ _⟩
 | some ad =>
   simp only [Option.isNone_some] at k0
   go_enter Tryz.func93,Tryz.ntmps93
   go_wp2_with (at_builtin
                refine wpl_append rfl (.tmp 5) (.tmp 6) _ rfl w w.heap.size 58 _ 7 80 Tryz.underlying29 Tryz.zObj rfl (by decide) (.slice (some ⟨w.heap.size,0,none⟩) 0 0) 0 [] rfl ?own (w.heap.size+1) (some ad) n cap C rfl ?rd h1.out (by omega) (by decide) ?bel ?base ?_
                case own=>exact World.ownsRow_lit _ #[] 0 (Nat.le_refl _) (by unfold maxLen;omega) rfl
                case rd=>exact (hr.out.alloc (Nat.le_refl _) _).more (by simp)
                case bel=>exact (Below.refl _ _).alloc (Nat.le_refl _) _
                case base=>simp
                intro v1 w1 hh)
   go_ret
   refine⟨v1,rfl,?_,hh.out.2.1⟩
   have h:=hh.out.1
   simpa using h
def InsObj (base:Nat) (v:Value) (n:Nat) (C:List Value) (i vb:Nat) (ys:Array Value) (w0 w:World):Prop :=
 Calls Tryz.prog 94 #[v,.int .i64 (i:Int),.slice (some ⟨vb,0,none⟩) 1 1] w fun e w' =>
  ∃v',e = .returned v'∧Hid (w'.ownsRow base 58 7 v' (n+1) (insC C ys.toList (i*7)))∧Below base w0 w'
section
variable (base:Nat) (v:Value) (n:Nat) (C:List Value) (i vb:Nat) (ys:Array Value) (w0 w:World)
theorem insObj_end (hown:Hid (w.ownsRow base 58 7 v n C)) (hB:Hid (Below base w0 w)) (hbase:base≤w.heap.size) (hv:Hid (Blk w vb 58 ys)) (hy:Hid (ys.size=7)) (h1:Hid (OneC ys.toList)) (hi:i=n) (hn:n≤67108864) :
 InsObj base v n C i vb ys w0 w:=by
 unfold InsObj
 subst hi
 obtain⟨ii,hi1,hi2,hi3,hi4⟩:=info_parts Tryz.zObj
 obtain⟨A,cap,rfl,h1',h2⟩:=own_slice hown.out
 have hsl:=slice_from (P:=Tryz.prog) Tryz.underlying29 hi1 hi3 A i cap i (Nat.le_refl _) h1'
 generalize (Value.slice (if cap=i then A else A.map (·.add (i*7))) (i - i) (cap - i))=sv at hsl
 have HRD:=Lh (show Reads w w.heap.size 7 (some ⟨vb,0,none⟩) 1 ys.toList from ⟨by have:=hy.out;simp [this],fun _=>⟨_,rfl,hv.out.lt,fun j u hu=>by
  rw [addr0,hv.out.cell]
  simpa using hu⟩⟩)
 unfold maxLen at h2
 clear hi1 hi2 hi3 hi4
 go_enter Tryz.func94,Tryz.ntmps94
 go_wp2_with (at_builtin
              refine wpl_append rfl (.tmp 23) (.tmp 24) _ rfl w0 base 58 _ 7 80 Tryz.underlying29 Tryz.zObj rfl (by decide) (.slice A i cap) i C rfl hown.out w.heap.size (some ⟨vb,0,none⟩) 1 1 ys.toList rfl HRD.out h1.out (by omega) (by decide) hB.out hbase ?_
              intro v1 w1 hh)
 go_ret
 refine⟨v1,rfl,Lh ?_,hh.out.2.1⟩
 have h:=hh.out.1
 have hlen:C.length=i*7:=hown.out.1
 unfold insC
 rw [← hlen,List.take_length,List.drop_length,List.append_nil]
 exact h
theorem insObj_room (g c:Nat) (hown:Hid (w.ownsRow base 58 7 (.slice (some ⟨g,0,none⟩) n c) n C)) (hC:Hid (OneC C)) (hB:Hid (Below base w0 w)) (hv:Hid (Blk w vb 58 ys)) (hys:Hid (ys.size=7)) (hy1:Hid (OneC ys.toList)) (hne:g≠vb) (hi:i<n) (hn:n≤67108864) (hr:n+1≤c) :
 InsObj base (.slice (some ⟨g,0,none⟩) n c) n C i vb ys w0 w:=by
 unfold InsObj
 obtain⟨ii,hi1,hi2,hi3,hi4⟩:=info_parts Tryz.zObj
 obtain⟨cur,hbg,hg,hcm,hsz,htk⟩:∃cur:Array Value,base≤g∧w.heap[g]?=some (.cells cur 58 (0,0))∧c≤maxLen∧cur.size=c*7∧cur.toList.take (n*7)=C:=by
  rcases hown.out.2 with ⟨h,_⟩ | ⟨g',cap',cur,ev,q1,q2,q3,q4,q5,q6⟩
  · cases h
  · injection ev with e1 e2 e3
    injection e1 with e1
    injection e1 with e1
    subst e1
    subst e3
    exact⟨cur,q1,q2,q4,q5,q6⟩
 have hlen:C.length=n*7:=hown.out.1
 have hyl:ys.toList.length=7:=by have:=hys.out;simpa using this
 have hcl:(C.drop (i*7)).length=(n - i)*7:=by rw [List.length_drop,hlen];omega
 have hgl:∀j,j<n*7→cur.toList[j]?=C[j]?:=fun j hj=>by rw [← htk,List.getElem?_take_of_lt hj]
 have hsl:=slice_from (P:=Tryz.prog) Tryz.underlying29 hi1 hi3 (some ⟨g,0,none⟩) n c i (by omega) (by omega)
 generalize (Value.slice (if c=i then some ⟨g,0,none⟩ else (some ⟨g,0,none⟩:Option Addr).map (·.add (i*7))) (n - i) (c - i))=sv at hsl
 have hs1:=slice_to (P:=Tryz.prog) Tryz.underlying29 hi1 hi3 (some ⟨g,0,none⟩) n c (n+1) hr
 have hs2:=slice_from (P:=Tryz.prog) Tryz.underlying29 hi1 hi3 (some ⟨g,0,none⟩) (n+1) c (i+1) (by omega) (by omega)
 have hs3:=slice_from (P:=Tryz.prog) Tryz.underlying29 hi1 hi3 (some ⟨g,0,none⟩) (n+1) c i (by omega) (by omega)
 rw [if_neg (by omega),Option.map_some,addr0,show n+1 - (i+1)=n - i by omega] at hs2
 rw [if_neg (by omega),Option.map_some,addr0] at hs3
 have e1:((n+1:Nat):Int)=(n:Int)+1:=by omega
 have e2:((i+1:Nat):Int)=(i:Int)+1:=by omega
 rw [e1] at hs1
 rw [e2] at hs2
 have hw1:IntKind.i64.wrap ((i:Int)+1)=(i:Int)+1:=by rw [IntKind.wrap_i64];omega
 have hnq:((i:Int) == (n:Int))=false:=by rw [beq_eq_false_iff_ne];omega
 have hgt:decide ((n:Int)+1>(c:Int))=false:=decide_eq_false (by omega)
 have hgt2:decide ((c:Int)<(n:Int)+1)=false:=decide_eq_false (by omega)
 have hz:∀W:World,(sizeOf 58).run Tryz.prog W = .ok 7 W:=fun W=>by simp [sizeOf,typeInfo,hi1,hi3]
 have hov:∀lb cb (W:World),W.heap=w.heap→(callFunc 126 #[.slice (some ⟨vb,0,none⟩) 1 1,.slice (some ⟨g,(i+1)*7,none⟩) lb cb]).run Tryz.prog W = .ok (.value (.bool false)) W:=fun lb cb W hW=>by
  have hvW:W.heap[vb]?=some (.cells ys 58 (0,0)):=by rw [hW];exact hv.out
  have hgW:W.heap[g]?=some (.cells cur 58 (0,0)):=by rw [hW];exact hg
  rw [run_callFunc_extern Tryz.func126 (by kernel_rfl) (by kernel_rfl) (by kernel_rfl) (e:=Extern.SlicesOverlaps.overlaps #[29,29] #[4]) (by kernel_rfl),
   Lib.run_overlaps_apart W 29 4 58 Tryz.underlying29 7 hz ⟨vb,0,none⟩ ⟨g,(i+1)*7,none⟩ 1 1 lb cb (fun h=>hne h.symm) 58 58 7 cur.size (by simp [World.shape?,hvW,hys.out]) (by simp [World.shape?,hgW]) (by omega) (by simp [World.frozen?,hvW]) (by simp [World.frozen?,hvW])]
  rfl
 have hszi:(Tryz.prog.info? 58).map (·.size)=some 7:=by rw [hi1];simp [hi3]
 have hcl5:cur.toList.length=c*7:=by simpa using hsz
 obtain⟨cur1,hc1⟩:∃cur1:Array Value,cur1=(cur.toList.take ((i+1)*7) ++ C.drop (i*7) ++ cur.toList.drop ((i+1)*7+(n - i)*7)).toArray:=⟨_,rfl⟩
 have hs1z:cur1.size=c*7:=by rw [hc1];simp only [List.size_toArray,List.length_append,List.length_take,List.length_drop,hlen,hcl5];omega
 obtain⟨cur2,hc2⟩:∃cur2:Array Value,cur2=(cur1.toList.take (i*7) ++ ys.toList ++ cur1.toList.drop (i*7+7)).toArray:=⟨_,rfl⟩
 have hcp1:∀ (W:World),W.heap=w.heap→∀ty dc sc,(Builtin.copy_ #[29,29] ty #[.slice (some ⟨g,(i+1)*7,none⟩) (n - i) dc,.slice (some ⟨g,i*7,none⟩) (n+1 - i) sc]).run Tryz.prog W = .ok (goInt (n - i:Nat)) (W.setRow g cur1):=fun W hW ty dc sc=>by
  have h:=run_copy_rowK (P:=Tryz.prog) W 29 29 ty 58 g ((i+1)*7) (n - i) dc ⟨g,i*7,none⟩ (n+1 - i) sc cur 58 (C.drop (i*7)) 7 (n - i) Tryz.underlying29 hszi (by rw [hW];exact hg) (by simp only [Nat.min_def];split <;> omega) hcl (fun j v hj=>by
   have hjl:j<(n - i)*7:=by have:=(List.getElem?_eq_some_iff.1 hj).1;omega
   rw [addrK,cell_of_row W g (i*7+j) cur 58 (0,0) (by rw [hW];exact hg)]
   rw [List.getElem?_drop,← hgl _ (by omega)] at hj
   simpa using hj) (by rw [hcl];omega) (hC.out.drop _)
  rw [hcl,← hc1] at h
  exact h
 have hcp2:∀ (W:World),W.heap[g]?=some (.cells cur1 58 (0,0))→W.heap[vb]?=some (.cells ys 58 (0,0))→∀ty dc,(Builtin.copy_ #[29,29] ty #[.slice (some ⟨g,i*7,none⟩) (n+1 - i) dc,.slice (some ⟨vb,0,none⟩) 1 1]).run Tryz.prog W = .ok (goInt (1:Nat)) (W.setRow g cur2):=fun W hW hW2 ty dc=>by
  have h:=run_copy_rowK (P:=Tryz.prog) W 29 29 ty 58 g (i*7) (n+1 - i) dc ⟨vb,0,none⟩ 1 1 cur1 58 ys.toList 7 1 Tryz.underlying29 hszi hW (by simp only [Nat.min_def];split <;> omega) (by rw [hyl]) (fun j v hj=>by
   rw [addr0,cell_of_row W vb j _ 58 (0,0) hW2]
   simpa using hj) (by rw [hs1z,hyl];omega) hy1.out
  rw [hyl,← hc2] at h
  exact h
 have hfin:cur2.toList.take ((n+1)*7)=insC C ys.toList (i*7):=by
  have h:=insK_list cur.toList (C.drop (i*7)) ys.toList 7 (i*7) ((n - i)*7) hcl hyl (by rw [hcl5];omega)
  rw [hc2,hc1]
  rw [show (i+1)*7=i*7+7 by omega,show (n+1)*7=i*7+7+(n - i)*7 by omega]
  rw [h]
  have h2:cur.toList.take (i*7)=C.take (i*7):=by
   rw [← htk,List.take_take,Nat.min_eq_left (by omega)]
  rw [h2]
  rfl
 have hs2z:cur2.size=c*7:=by rw [hc2];simp only [List.size_toArray,List.length_append,List.length_take,List.length_drop,Array.length_toList,hs1z,hyl,hys.out];omega
 have hinl:(insC C ys.toList (i*7)).length=(n+1)*7:=by rw [insC_len (by omega),hyl,hlen];omega
 have HFIN:=Lh (And.intro hfin (And.intro hs2z hinl))
 have HG:=Lh hg
 have HBG:=Lh hbg
 have HCM:=Lh hcm
 have HV:=hv
 have hge:g<w.heap.size:=(Blk.lt (cs:=cur) (t:=58) hg)
 clear hc1 hc2 hfin hs2z hs1z hg hszi hcl5 hcl hgl htk hsz hlen hbg hcm hyl hinl
 unfold maxLen at HCM
 obtain⟨w5,hw5⟩:∃w5,w.drew.setRow g cur1=w5:=⟨_,rfl⟩
 have hc9:=hcp1 w.drew rfl 3 (c - (i+1)) (c - i)
 rw [hw5] at hc9
 have HB5:=Lh (show Below base w0 w5 from by rw [← hw5];exact below_setRow (bel_drewN hB.out 1) HBG.out _)
 have hg5:w5.heap[g]?=some (.cells cur1 58 (0,0)):=by rw [← hw5];exact setRow_heap w.drew g _ _ _ _ HG.out
 have hv5:w5.heap[vb]?=some (.cells ys 58 (0,0)):=by rw [← hw5];exact (setRow_other w.drew g vb _ (fun h=>hne h.symm)).trans hv.out
 have HG5:=Lh hg5
 have hc10:=hcp2 w5 hg5 hv5 3 (c - i)
 clear hw5 hg5 hv5 hcp1 hcp2
 go_enter Tryz.func94,Tryz.ntmps94
 go_wp2_with (simp only [hov _ _ _ rfl])
 go_region
 clear hc9
 go_wp2
 go_ret
 refine⟨_,rfl,Lh ⟨HFIN.out.2.2,.inr ⟨g,c,cur2,rfl,HBG.out,setRow_heap _ g _ _ _ _ HG5.out,hr,HCM.out,HFIN.out.2.1,HFIN.out.1⟩⟩,?_⟩
 exact below_setRow HB5.out HBG.out _
theorem insObj_grow (g c:Nat) (hown:Hid (w.ownsRow base 58 7 (.slice (some ⟨g,0,none⟩) n c) n C)) (hC:Hid (OneC C)) (hB:Hid (Below base w0 w)) (hv:Hid (Blk w vb 58 ys)) (hys:Hid (ys.size=7)) (hy1:Hid (OneC ys.toList)) (hne:g≠vb) (hi:i<n) (hn:n≤67108864) (hr:c<n+1) (hcn:n≤c) (hbase:base≤w.heap.size) :
 InsObj base (.slice (some ⟨g,0,none⟩) n c) n C i vb ys w0 w:=by
 unfold InsObj
 obtain⟨ii,hi1,hi2,hi3,hi4⟩:=info_parts Tryz.zObj
 obtain⟨cur,hbg,hg,hcm,hsz,htk⟩:∃cur:Array Value,base≤g∧w.heap[g]?=some (.cells cur 58 (0,0))∧c≤maxLen∧cur.size=c*7∧cur.toList.take (n*7)=C:=by
  rcases hown.out.2 with ⟨h,_⟩ | ⟨g',cap',cur,ev,q1,q2,q3,q4,q5,q6⟩
  · cases h
  · injection ev with e1 e2 e3
    injection e1 with e1
    injection e1 with e1
    subst e1
    subst e3
    exact⟨cur,q1,q2,q4,q5,q6⟩
 have hlen:C.length=n*7:=hown.out.1
 have hyl:ys.toList.length=7:=by have:=hys.out;simpa using this
 have hcl:(C.drop (i*7)).length=(n - i)*7:=by rw [List.length_drop,hlen];omega
 have hgl:∀j,j<n*7→cur.toList[j]?=C[j]?:=fun j hj=>by rw [← htk,List.getElem?_take_of_lt hj]
 have hsl:=slice_from (P:=Tryz.prog) Tryz.underlying29 hi1 hi3 (some ⟨g,0,none⟩) n c i (by omega) (by omega)
 rw [if_neg (by omega),Option.map_some,addr0] at hsl
 have hs1:=slice_to (P:=Tryz.prog) Tryz.underlying29 hi1 hi3 (some ⟨g,0,none⟩) n c i (by omega)
 have hgh:g<w.heap.size:=(Blk.lt (cs:=cur) (t:=58) hg)
 have hvh:vb<w.heap.size:=hv.out.lt
 have hszi:(Tryz.prog.info? 58).map (·.size)=some 7:=by rw [hi1];simp [hi3]
 have htl:(C.take (i*7)).length=i*7:=by rw [List.length_take,hlen];omega
 have hold:(Builtin.firstCells ii.size i (.slice (some ⟨g,0,none⟩) i c)).run Tryz.prog w.drew = .ok (C.take (i*7)).toArray w.drew:=by
  rw [hi3]
  exact run_firstCells_some w.drew 7 i ⟨g,0,none⟩ i c (C.take (i*7)) htl (fun j v hj=>by
   have hjl:j<i*7:=by have:=(List.getElem?_eq_some_iff.1 hj).1;omega
   rw [addr0,cell_of_row w.drew g j cur 58 (0,0) hg]
   rw [List.getElem?_take_of_lt hjl,← hgl _ (by omega)] at hj
   simpa using hj)
 have hrz:=Lib.run_append_grow_zeros (P:=Tryz.prog) w 29 3 29 58 ii _ .i64 .i64 Tryz.underlying29 Tryz.underlying3 hi1 hi2 (some ⟨g,0,none⟩) i c (C.take (i*7)) hold (n+1 - i) (by omega) (by omega) (by omega) (by omega) (by rw [hi4];omega) (by rw [hi4];exact growslice_fits (by omega) (by omega))
 rw [show i+(n+1 - i)=n+1 by omega,show ((n+1 - i:Nat):Int)=(n:Int)+1 - (i:Int) by omega] at hrz
 have hGn:n+1≤grownCap w (n+1) c 58:=grownCap_ge w _ _ _
 have hG63:=grownCap_le_maxLen w (n+1) c 58 (by unfold maxLen;omega)
 generalize grownCap w (n+1) c 58=G at *
 obtain⟨ROW,hROW⟩:∃ROW:Array Value,ROW=(C.take (i*7)).toArray ++ Builtin.zeroCells (Value.agg #[.string ⟨#[]⟩,.int .u64 0,.int .i64 0,.int .u32 0,.int .i64 0,.int .u64 0,.slice none 0 0]).cells (n+1 - i) ++ Builtin.zeroCells (Value.agg #[.string ⟨#[]⟩,.int .u64 0,.int .i64 0,.int .u32 0,.int .i64 0,.int .u64 0,.slice none 0 0]).cells (G - (n+1)):=⟨_,rfl⟩
 have hRz:ROW.size=G*7:=by
  rw [hROW]
  simp only [Array.size_append,List.size_toArray,htl]
  have hzc:∀k,(Builtin.zeroCells (Value.agg #[.string ⟨#[]⟩,.int .u64 0,.int .i64 0,.int .u32 0,.int .i64 0,.int .u64 0,.slice none 0 0]).cells k).size=k*7:=fun k=>by simp [Builtin.zeroCells,Value.cells]
  rw [hzc,hzc]
  omega
 have hRt:ROW.toList.take (i*7)=C.take (i*7):=by
  rw [hROW]
  simp only [Array.toList_append,List.append_assoc]
  rw [List.take_append_of_le_length (by omega),List.take_of_length_le (by omega)]
 rw [← hROW] at hrz
 obtain⟨H,hH⟩:∃H,H=w.heap.size:=⟨_,rfl⟩
 obtain⟨w1,hw1⟩:∃w1,w.drew.alloc (.cells ROW 58)=w1:=⟨_,rfl⟩
 rw [hw1,← hH] at hrz
 have hRl:ROW.toList.length=G*7:=by simpa using hRz
 have g1:w1.heap[H]?=some (.cells ROW 58 (0,0)):=by rw [← hw1,hH];exact Blk.new w.drew _ _
 have v1:w1.heap[vb]?=some (.cells ys 58 (0,0)):=by rw [← hw1];exact (Blk.alloc (w:=w.drew) hv.out _)
 have c1:w1.heap[g]?=some (.cells cur 58 (0,0)):=by rw [← hw1];exact (Blk.alloc (w:=w.drew) hg _)
 have hB1:Below base w0 w1:=by rw [← hw1];exact (bel_drewN hB.out 1).alloc hbase _
 obtain⟨row1,hr1⟩:∃row1:Array Value,row1=(ROW.toList.take (i*7) ++ ys.toList ++ ROW.toList.drop (i*7+7)).toArray:=⟨_,rfl⟩
 have hr1z:row1.size=G*7:=by rw [hr1];simp only [List.size_toArray,List.length_append,List.length_take,List.length_drop,hRl,hyl];omega
 have hs2:=slice_from (P:=Tryz.prog) Tryz.underlying29 hi1 hi3 (some ⟨H,0,none⟩) (n+1) G i (by omega) hGn
 rw [if_neg (by omega),Option.map_some,addr0] at hs2
 have hs3:=slice_from (P:=Tryz.prog) Tryz.underlying29 hi1 hi3 (some ⟨H,0,none⟩) (n+1) G (i+1) (by omega) hGn
 rw [if_neg (by omega),Option.map_some,addr0,show n+1 - (i+1)=n - i by omega,show ((i+1:Nat):Int)=(i:Int)+1 by omega] at hs3
 have hcA:=run_copy_rowK (P:=Tryz.prog) w1 29 29 3 58 H (i*7) (n+1 - i) (G - i) ⟨vb,0,none⟩ 1 1 ROW 58 ys.toList 7 1 Tryz.underlying29 hszi g1 (by simp only [Nat.min_def];split <;> omega) (by rw [hyl]) (fun j v hj=>by
  rw [addr0,cell_of_row w1 vb j _ 58 (0,0) v1]
  simpa using hj) (by rw [hRz,hyl];omega) hy1.out
 rw [hyl,← hr1] at hcA
 obtain⟨w2,hw2⟩:∃w2,w1.setRow H row1=w2:=⟨_,rfl⟩
 rw [hw2] at hcA
 have g2:w2.heap[H]?=some (.cells row1 58 (0,0)):=by rw [← hw2];exact setRow_heap w1 H _ _ _ _ g1
 have c2:w2.heap[g]?=some (.cells cur 58 (0,0)):=by rw [← hw2];exact (setRow_other w1 H g _ (by omega)).trans c1
 have hB2:Below base w0 w2:=by rw [← hw2];exact below_setRow hB1 (by omega) _
 obtain⟨row2,hr2⟩:∃row2:Array Value,row2=(row1.toList.take ((i+1)*7) ++ C.drop (i*7) ++ row1.toList.drop ((i+1)*7+(n - i)*7)).toArray:=⟨_,rfl⟩
 have hr1l:row1.toList.length=G*7:=by simpa using hr1z
 have hr2z:row2.size=G*7:=by rw [hr2];simp only [List.size_toArray,List.length_append,List.length_take,List.length_drop,hlen,hr1l];omega
 have hcB:=run_copy_rowK (P:=Tryz.prog) w2.drew 29 29 3 58 H ((i+1)*7) (n - i) (G - (i+1)) ⟨g,i*7,none⟩ (n - i) (c - i) row1 58 (C.drop (i*7)) 7 (n - i) Tryz.underlying29 hszi g2 (by simp only [Nat.min_def];split <;> omega) hcl (fun j v hj=>by
  have hjl:j<(n - i)*7:=by have:=(List.getElem?_eq_some_iff.1 hj).1;omega
  rw [addrK,cell_of_row w2.drew g (i*7+j) cur 58 (0,0) c2]
  rw [List.getElem?_drop,← hgl _ (by omega)] at hj
  simpa using hj) (by rw [hr1z,hcl];omega) (hC.out.drop _)
 rw [hcl,← hr2] at hcB
 obtain⟨w3,hw3⟩:∃w3,w2.drew.setRow H row2=w3:=⟨_,rfl⟩
 rw [hw3] at hcB
 have HB3:=Lh (show Below base w0 w3 from by rw [← hw3];exact below_setRow (bel_drewN hB2 1) (by omega) _)
 have HG3:=Lh (show w3.heap[H]?=some (.cells row2 58 (0,0)) from by rw [← hw3];exact setRow_heap w2.drew H _ _ _ _ g2)
 have hfin:row2.toList.take ((n+1)*7)=insC C ys.toList (i*7):=by
  have h:=insK_list2 ROW.toList (C.drop (i*7)) ys.toList 7 (i*7) ((n - i)*7) hcl hyl (by rw [hRl];omega)
  rw [hr2,hr1]
  rw [show (i+1)*7=i*7+7 by omega,show (n+1)*7=i*7+7+(n - i)*7 by omega]
  rw [h,hRt]
  rfl
 have hinl:(insC C ys.toList (i*7)).length=(n+1)*7:=by rw [insC_len (by omega),hyl,hlen];omega
 have HFIN:=Lh (And.intro hfin (And.intro hr2z hinl))
 have HH:=Lh (show base≤H from by omega)
 have hw9:IntKind.i64.wrap ((i:Int)+1)=(i:Int)+1:=by rw [IntKind.wrap_i64];omega
 have hnq:((i:Int) == (n:Int))=false:=by rw [beq_eq_false_iff_ne];omega
 have hgt:decide ((n:Int)+1>(c:Int))=true:=decide_eq_true (by omega)
 have hgt2:decide ((c:Int)<(n:Int)+1)=true:=decide_eq_true (by omega)
 unfold maxLen at hG63
 have HG6:=Lh (And.intro hGn hG63)
 clear hfin hr2z hr1l hr2 hw3 hw2 hw1 hr1 hr1z hRl hRt hRz hROW hold hszi hgl hcl htk hsz hg hbg hcm hB1 hB2 g1 g2 v1 c1 c2 hH hi1 hi2 hi3 hi4 hlen hgh hvh hyl hinl htl
 go_enter Tryz.func94,Tryz.ntmps94
 go_wp2_with (at_builtin;refine Lib.wpList_append_run _ rfl _ _ _ _ rfl _ _ rfl rfl _ _ hrz ?_)
 clear hrz hcA
 go_region
 clear hcB
 go_wp2
 go_ret
 exact⟨_,rfl,Lh ⟨HFIN.out.2.2,.inr ⟨H,G,row2,rfl,HH.out,HG3.out,HG6.out.1,HG6.out.2,HFIN.out.2.1,HFIN.out.1⟩⟩,HB3.out⟩
theorem insObj (hown:Hid (w.ownsRow base 58 7 v n C)) (hC:Hid (OneC C)) (hB:Hid (Below base w0 w)) (hbase:base≤w.heap.size) (hv:Hid (Blk w vb 58 ys)) (hys:Hid (ys.size=7)) (hy1:Hid (OneC ys.toList)) (hne:v.ownBlock≠some vb) (hi:i≤n) (hn:n≤67108864) :
 InsObj base v n C i vb ys w0 w:=by
 by_cases c1:i=n
 · exact insObj_end base v n C i vb ys w0 w hown hB hbase hv hys hy1 c1 hn
 · obtain⟨g,c,rfl⟩:∃g c,v = .slice (some ⟨g,0,none⟩) n c:=by
    rcases hown.out.2 with ⟨_,h⟩ | ⟨g',cap',cur,ev,_⟩
    · have:=hown.out.1
      rw [h] at this
      simp at this
      omega
    · exact⟨g',cap',ev⟩
   have hcn:n≤c:=by
    obtain⟨_,_,ev,q1,q2⟩:=own_slice hown.out
    injection ev with _ _ ev
    subst ev
    exact q1
   have hg:g≠vb:=fun h=>hne (by rw [h];rfl)
   by_cases c2:n+1≤c
   · exact insObj_room base n C i vb ys w0 w g c hown hC hB hv hys hy1 hg (by omega) hn c2
   · exact insObj_grow base n C i vb ys w0 w g c hown hC hB hv hys hy1 hg (by omega) hn (by omega) hcn hbase
end
theorem delObj (base:Nat) (v:Value) (n:Nat) (C:List Value) (i:Nat) (w0 w:World) (hown0:Hid (w.ownsRow base 58 7 v n C)) (hC:Hid (OneC C)) (hB:Hid (Below base w0 w)) (hi:i<n) (hn:n≤67108864) :
 Calls Tryz.prog 125 #[v,.int .i64 (i:Int),.int .i64 ((i:Int)+1)] w fun e w'=>∃v',e = .returned v'∧Hid (w'.ownsRow base 58 7 v' (n - 1) (C.take (i*7) ++ C.drop ((i+1)*7)))∧Below base w0 w':=by
 obtain⟨g,c,rfl⟩:∃g c,v = .slice (some ⟨g,0,none⟩) n c:=by
  rcases hown0.out.2 with ⟨_,h⟩ | ⟨g',cap',cur,ev,_⟩
  · have:=hown0.out.1
    rw [h] at this
    simp at this
    omega
  · exact⟨g',cap',ev⟩
 have hown:=hown0
 clear hown0
 obtain⟨ii,hi1,hi2,hi3,hi4⟩:=info_parts Tryz.zObj
 obtain⟨cur,hbg,hg,hcn,hcm,hsz,htk⟩:∃cur:Array Value,base≤g∧w.heap[g]?=some (.cells cur 58 (0,0))∧n≤c∧c≤maxLen∧cur.size=c*7∧cur.toList.take (n*7)=C:=by
  rcases hown.out.2 with ⟨h,_⟩ | ⟨g',cap',cur,ev,q1,q2,q3,q4,q5,q6⟩
  · cases h
  · injection ev with e1 e2 e3
    injection e1 with e1
    injection e1 with e1
    subst e1
    subst e3
    exact⟨cur,q1,q2,q3,q4,q5,q6⟩
 have hlen:C.length=n*7:=hown.out.1
 obtain⟨m,em⟩:∃m,n - (i+1)=m:=⟨_,rfl⟩
 obtain⟨p,ep⟩:∃p,i+m=p:=⟨_,rfl⟩
 have hpn:p+1=n:=by omega
 obtain⟨news,hnews⟩:∃news,news=C.drop ((i+1)*7):=⟨_,rfl⟩
 have hnl:news.length=m*7:=by rw [hnews,List.length_drop,hlen];omega
 have hgl:∀j,j<n*7→cur.toList[j]?=C[j]?:=fun j hj=>by rw [← htk,List.getElem?_take_of_lt hj]
 have hBk:Blk w.drew g 58 cur:=hg
 obtain⟨A,hA,hsrc⟩:∃A:Addr,(if c=i+1 then (some ⟨g,0,none⟩:Option Addr) else some ⟨g,(i+1)*7,none⟩)=some A∧Hid (∀t u,news[t]?=some u→w.drew.cell? (A.add t)=some u):=by
  by_cases h:c=i+1
  · refine⟨⟨g,0,none⟩,by simp [h],fun t u hu=>?_⟩
    have h0:news.length=0:=by rw [hnl];omega
    rw [List.length_eq_zero_iff.1 h0] at hu
    simp at hu
  · refine⟨⟨g,(i+1)*7,none⟩,by simp [h],fun t u hu=>?_⟩
    have ht:t<m*7:=by
     have:=(List.getElem?_eq_some_iff.1 hu).1
     rwa [hnl] at this
    rw [addrK,hBk.cell]
    rw [hnews,List.getElem?_drop,← hgl _ (by omega)] at hu
    simpa using hu
 have hs1:=slice_to (P:=Tryz.prog) Tryz.underlying29 hi1 hi3 (some ⟨g,0,none⟩) n c i (by omega)
 have hs2:=slice_from (P:=Tryz.prog) Tryz.underlying29 hi1 hi3 (some ⟨g,0,none⟩) n c (i+1) (by omega) hcn
 rw [Option.map_some,addr0,hA,em,show ((i+1:Nat):Int)=(i:Int)+1 by omega] at hs2
 have hs4:=slice_both (P:=Tryz.prog) Tryz.underlying29 hi1 hi3 (some ⟨g,0,none⟩) p c p n (by omega) hcn
 rw [if_neg (by omega),Option.map_some,addr0,show n - p=1 by omega] at hs4
 have hs0:=slice_three (P:=Tryz.prog) Tryz.underlying29 hi1 hi3 (some ⟨g,0,none⟩) n c i (i+1) n (by omega) (by omega) hcn
 rw [show ((i+1:Nat):Int)=(i:Int)+1 by omega] at hs0
 generalize (Value.slice (if n=i then some ⟨g,0,none⟩ else (some ⟨g,0,none⟩:Option Addr).map (·.add (i*7))) (i+1 - i) (n - i))=sv at hs0
 have hnq:((i:Int) == (i:Int)+1)=false:=by rw [beq_eq_false_iff_ne];omega
 have s1:=Lh hnl
 have s2:Hid (OneC news):=Lh (by rw [hnews];exact hC.out.drop _)
 have s3:Hid (∀t,t<news.length→(w.drew.cell? ⟨g,0+i*7+t,none⟩).isSome=true∧w.drew.frozen? ⟨g,0+i*7+t,none⟩=false):=Lh fun t ht=>by
  rw [hnl] at ht
  rw [hBk.cell]
  exact⟨by have:=hsz;simp;omega,hBk.frozen _⟩
 obtain⟨W1,hW1⟩:∃W1,W1=w.drew.setCells g (0+i*7) news:=⟨_,rfl⟩
 obtain⟨z1,b1,o1,k1,l1,r1⟩:=setCells_blk g 58 news (0+i*7) w.drew cur hBk (by rw [hnl,hsz];omega)
 rw [← hW1] at b1 o1
 obtain⟨zs,hzs⟩:∃zs,zs=(Builtin.zeroCells (Value.agg #[.string ⟨#[]⟩,.int .u64 0,.int .i64 0,.int .u32 0,.int .i64 0,.int .u64 0,.slice none 0 0]).cells 1).toList:=⟨_,rfl⟩
 have hzl:zs.length=7:=by rw [hzs];kernel_rfl
 have hz1:∀u ∈ zs,u.oneCell'=true:=by
  have h:(Builtin.zeroCells (Value.agg #[.string ⟨#[]⟩,.int .u64 0,.int .i64 0,.int .u32 0,.int .i64 0,.int .u64 0,.slice none 0 0]).cells 1).toList.all (·.oneCell')=true:=by kernel_rfl
  rw [← hzs,List.all_eq_true] at h
  exact h
 obtain⟨W2,hW2⟩:∃W2,W2=W1.setCells g (p*7+0) zs:=⟨_,rfl⟩
 obtain⟨z2,b2,o2,k2,l2,r2⟩:=setCells_blk g 58 zs (p*7+0) W1 z1 b1 (by rw [hzl,k1,hsz];omega)
 rw [← hW2] at b2 o2
 have hcl:∀ty,(Builtin.clear_ #[29] ty #[.slice (some ⟨g,p*7,none⟩) 1 (c - p)]).run Tryz.prog W1 = .ok (.tuple #[]) W2:=fun ty=>by
  have h:=run_storeCells_cells (P:=Tryz.prog) g (p*7) zs 0 W1 (fun j hj=>by rw [b1.cell];rw [hzl] at hj;have:=hsz;simp;omega) (fun j hj=>b1.frozen _) hz1
  have hze:(zeroValue 58).run Tryz.prog W1 = .ok (.agg #[.string ⟨#[]⟩,.int .u64 0,.int .i64 0,.int .u32 0,.int .i64 0,.int .u64 0,.slice none 0 0]) W1:=by kernel_rfl
  rw [← hW2] at h
  rw [hzs] at h
  simp only [Builtin.clear_,List.getElem?_toArray,List.getElem?_cons_zero,Sem.run_bind,run_underlying Tryz.underlying29,Result.andThen_ok,hze]
  rw [h]
  rfl
 have hfin:z2.toList.take (p*7)=C.take (i*7) ++ news:=by
  apply List.ext_getElem?
  intro j
  rcases Nat.lt_or_ge j (p*7) with hj | hj
  · rw [List.getElem?_take_of_lt hj,Array.getElem?_toList,l2 j (by omega)]
    rcases Nat.lt_or_ge j (i*7) with hj2 | hj2
    · rw [List.getElem?_append_left (by rw [List.length_take,hlen];omega),List.getElem?_take_of_lt hj2,l1 j (by omega),← hgl j (by omega),Array.getElem?_toList]
    · have ht:(C.take (i*7)).length=i*7:=by rw [List.length_take,hlen];omega
      rw [List.getElem?_append_right (by omega),ht]
      have h:=r1 (j - i*7) (by rw [hnl];omega)
      rw [show 0+i*7+(j - i*7)=j by omega] at h
      exact h
  · rw [List.getElem?_eq_none (by rw [List.length_take];omega),List.getElem?_eq_none (by rw [List.length_append,List.length_take,hnl,hlen];omega)]
 have HFIN:=Lh (show W2.ownsRow base 58 7 (.slice (some ⟨g,0,none⟩) p c) (n - 1) (C.take (i*7) ++ C.drop ((i+1)*7)) from by
  rw [show n - 1=p by omega,← hnews]
  exact⟨by rw [List.length_append,List.length_take,hnl,hlen];omega,.inr ⟨g,c,z2,rfl,hbg,b2,by omega,hcm,by rw [k2,k1,hsz],hfin⟩⟩)
 have HB2:=Lh (show Below base w0 W2 from (bel_drewN hB.out 1).trans ((o1.trans o2).below hbg))
 have hW:=Lh hW1
 have EP:=Lh ep
 have hic:i≤c:=by omega
 have himc:i+m≤c:=by omega
 unfold maxLen at hcm
 clear hW1 hW2 hzs hnews hnl hgl hBk hsz htk hlen hg b1 o1 k1 l1 r1 b2 o2 k2 l2 r2 hfin hz1 hzl hA hi2 hi4 em ep
 go_enter Tryz.func125,Tryz.ntmps125
 go_wp2_with fail
 go_region_law (refine step_append_room rfl (.tmp 22) (.tmp 25) 29 rfl 58 ii 7 Tryz.underlying29 hi1 hi3 g 0 i c (by simp [Act.eval,Act.put]) A m (c - (i+1)) news (by simp [Act.eval,Act.put]) s1.out hsrc.out s2.out himc s3.out ?_;rw [← hW.out,EP.out])
 go_wp2
 go_ret
 exact⟨_,rfl,HFIN,HB2.out⟩
end
section
open Go.RowKit OctMath
theorem llObj:∀m:OM,(omCs m).length=7:=fun _=>rfl
theorem oneObj (ms:List OM):OneC (ms.flatMap omCs):=fun u hu=>by
 obtain⟨m,_,hm⟩:=List.mem_flatMap.1 hu
 have h:(omCs m).all (·.oneCell')=true:=rfl
 exact List.all_eq_true.1 h u hm
theorem Tryz.szObj:(Tryz.prog.info? 58).map (·.size)=some 7:=by kernel_rfl
theorem Tryz.sbObj:(Tryz.prog.info? 58).map (fun i=>(i.zero.map (·.cells.size),i.size))=some (some 7,7):=by kernel_rfl
theorem putObj (A:Option Addr) (n cap:Nat) (ms:List OM) (m:OM) (kb:Nat) (k:List Nat) (w:World) (hr:Hid (Reads w w.heap.size 7 A n (ms.flatMap omCs))) (hl:Hid (ms.length=n)) (hn:n≤33554432) (hc:Hid (CapObj w kb k)) (hm:Hid (∀m ∈ ms,Byt m.x.key)) (hk1:Byt k) :
 Calls Tryz.prog 59 #[.slice A n cap,.agg (oA m),.func (.func 77) #[] #[.pointer (some ⟨kb,0,none⟩)]] w (RetRow 58 7 (putB (fL (cmpObj k) ms) m ms).length ((putB (fL (cmpObj k) ms) m ms).flatMap omCs) w):=by
 obtain⟨p,ep⟩:∃p,bsP (fL (cmpObj k) ms) n=p:=⟨_,rfl⟩
 have hpn:p≤n:=by rw [← ep];exact bsP_le _ _
 have HFW:=Lh (fun W h1 h2=>findObj A n cap ms kb k W h1 hl (by omega) h2 hm hk1)
 have HKL:=Lh hc.out.lt
 have HW:=Lh (show (oA m).size=7 from rfl)
 have HY1:=Lh (show (oA m).toList.all (·.oneCell')=true from rfl)
 have HLS:=Lh (show omCs m=(oA m).toList from rfl)
 obtain⟨cs,ecs⟩:∃cs,oA m=cs:=⟨_,rfl⟩
 have HBX:=Lh (Blk.new w 58 cs)
 have hb0:Below w.heap.size w (w.alloc (.cells cs 58)):=(Below.refl _ _).alloc (Nat.le_refl _) _
 have HR0:=Lh (hr.out.later hb0)
 have HC0:Hid (CapObj (w.alloc (.cells cs 58)) kb k):=Lh (Blk.below hc.out hb0 HKL.out)
 rw [ecs] at HW HY1 HLS ⊢
 clear ecs hb0
 cases eb:bsB (fL (cmpObj k) ms) n with
 | true =>
   have hp:p<n:=by rw [← ep];exact bsB_lt eb
   have HCELLS:=Lh (put_cells_old llObj (x:=m) (f:=(fL (cmpObj k) ms)) (ms:=ms) (by rw [hl.out];exact eb))
   have HLEN:=Lh (show (putB (fL (cmpObj k) ms) m ms).length=n from by rw [putB_len,hl.out,eb,if_pos rfl])
   rw [ep,eb] at HFW
   have EP:=Lh ep
   clear ep eb
   go_enter Tryz.func59,Tryz.ntmps59
   go_wp2_with (refine (HFW.out _ HR0 HC0).mono ?_;rintro e w1 ⟨rfl,hb⟩)
   have HBY:=Lh (HBX.out.below hb HBX.out.lt)
   have HR1:=Lh (HR0.out.later hb)
   have HB1:=Lh (show Below w.heap.size w w1 from ((Below.refl _ _).alloc (Nat.le_refl _) _).trans (hb.mono (by simp)))
   have HSZ:=Lh (show w.heap.size<w1.heap.size from by have:=hb.size;simp at this;omega)
   clear hb HBX HR0 HC0
   go_wp2_with (first
    | (go_at_call 93;refine (cloneObj A n cap _ _ HR1 (Lh (oneObj ms)) (by omega)).mono ?_;rintro e w2 ⟨v,rfl,ho,hb⟩;obtain⟨g,c,rfl⟩:=own_form ho (by omega);have HO:=Lh ho;have HBZ:=Lh (HBY.out.below hb HBY.out.lt);have HB2:=Lh hb;clear ho hb HBY)
    | (refine wpl_load_blk rfl 58 (.tmp 4) rfl w.heap.size 58 cs _ rfl HBZ.out Tryz.underlying58 rfl (Tryz.szObj.trans (congrArg some HW.out.symm)) ?_)
    | (refine wpl_store_own rfl 58 (.tmp 21) (.tmp 20) rfl w1.heap.size w1 7 n g c p _ cs rfl rfl HO.out HB2.out hp HW.out Tryz.szObj HY1.out ?_;intro w3 hh))
   go_ret
   refine⟨_,rfl,?_,HB1.out.trans (hh.out.2.1.mono HB1.out.size)⟩
   have h:=HCELLS.out
   rw [hl.out,EP.out,HLS.out] at h
   rw [HLEN.out,← h]
   exact ownBas hh.out.1 HB1.out.size
 | false =>
   have HCELLS:=Lh (put_cells_new llObj (x:=m) (f:=(fL (cmpObj k) ms)) (ms:=ms) (by rw [hl.out];exact eb))
   have HLEN:=Lh (show (putB (fL (cmpObj k) ms) m ms).length=n+1 from by rw [putB_len,hl.out,eb];rfl)
   rw [ep,eb] at HFW
   have EP:=Lh ep
   clear ep eb
   go_enter Tryz.func59,Tryz.ntmps59
   go_wp2_with (refine (HFW.out _ HR0 HC0).mono ?_;rintro e w1 ⟨rfl,hb⟩)
   have HBY:=Lh (HBX.out.below hb HBX.out.lt)
   have HR1:=Lh (HR0.out.later hb)
   have HB1:=Lh (show Below w.heap.size w w1 from ((Below.refl _ _).alloc (Nat.le_refl _) _).trans (hb.mono (by simp)))
   have HSZ:=Lh (show w.heap.size<w1.heap.size from by have:=hb.size;simp at this;omega)
   clear hb HBX HR0 HC0
   go_wp2_with fail
   refine wp_region_late (S0:=fun w'=>Blk w' w.heap.size 58 cs) (S:=fun _=>True) 6 7 (by kernel_rfl) rfl ⟨HBY.out.drew,trivial⟩ (fun wd hwd hH=>?_)
   have DW:=Lh (show Below w1.heap.size w1 wd from by rw [hwd];exact (Below.refl _ _).drew)
   clear hwd
   refine tS 0 rfl ?_ hH ?_ ?_
   rotate_left
   · (intro wy hx;go_simp <;> with_reducible rfl)
   try simp only [Act.put,pA9,pZ9,pS9]
   refine tS 2 rfl ?_ hH ?_ ?_
   rotate_left
   · (intro wy hx;go_simp <;> with_reducible rfl)
   try simp only [Act.put,pA9,pZ9,pS9]
   refine wpAnyT_stay 3 rfl (by kernel_rfl) (fun _ _ _ h=>h) (yields_load_blk rfl 58 (.tmp 4) rfl w.heap.size 58 cs _ rfl (fun w' hw'=>hw') Tryz.underlying58 rfl (Tryz.szObj.trans (congrArg some HW.out.symm))) ⟨hH.1,fun _=>hH.2⟩ ?_
   try simp only [Act.put,pA9,pZ9,pS9]
   refine wpAnyT_two 1 4 rfl rfl (by kernel_rfl) (fun K hQ=>?_) (fun K hQ=>?_)
   · go_simp
     (go_at_call 93;refine (cloneObj A n cap _ _ (Lh (HR1.out.later DW.out)) (Lh (oneObj ms)) (by omega)).mono ?_;rintro e w5 ⟨v,rfl,ho,hb⟩)
     have HO:=Lh ho
     have HB5:=Lh hb
     clear ho hb
     refine hQ.out _ _ ⟨hH.1.below HB5.out hH.1.lt,trivial⟩ (fun hH1=>?_)
     clear hQ K
     try simp only [Act.put,pA9,pZ9,pS9]
     refine wpAnyT_one 4 rfl (by kernel_rfl) (fun K hQ=>?_)
     rw [if_pos (by rfl)]
     refine wp_build1g 29 58 (.tmp 26) rfl 7 (by decide) (by decide) cs HW.out rfl Tryz.underlying29 Tryz.sbObj ?_
     try simp only [Act.put,pA9,pZ9,pS9]
     refine hQ.out _ _ ⟨hH1.1.alloc _,trivial⟩ (fun hH2=>?_)
     clear hQ K
     try simp only [Act.put,pA9,pZ9,pS9]
     have NB:=Lh (Blk.new w5 58 cs)
     have HO2:=Lh (HO.out.alloc (.cells cs 58))
     have HB6:=Lh (show Below wd.heap.size wd (w5.alloc (.cells cs 58)) from HB5.out.alloc HB5.out.size _)
     have HNE:=Lh (show v.ownBlock≠some w5.heap.size from fun e=>by have:=(HO.out.lt _ e).2;omega)
     obtain⟨w6,ew6⟩:∃w6,w5.alloc (.cells cs 58)=w6:=⟨_,rfl⟩
     have HS6:=Lh (show wd.heap.size≤w6.heap.size from by rw [← ew6];exact HB6.out.size)
     rw [ew6] at NB HO2 HB6 hH2 ⊢
     clear ew6
     obtain⟨vb,evb⟩:∃vb,w5.heap.size=vb:=⟨_,rfl⟩
     rw [evb] at NB HNE ⊢
     clear evb
     refine wpAnyT_one 5 rfl (by kernel_rfl) (fun K hQ=>?_)
     rw [if_pos (by rfl)]
     go_simp
     (go_at_call 94;refine (insObj wd.heap.size v n (ms.flatMap omCs) p vb cs wd _ (Lh HO2.out) (Lh (oneObj ms)) (Lh HB6.out) HS6.out (Lh NB.out) HW (Lh (List.all_eq_true.1 HY1.out)) HNE.out hpn (by omega)).mono ?_;rintro e w7 ⟨v',rfl,ho',hb'⟩)
     have HO7:=Lh ho'.out
     have HB7:=Lh hb'
     clear ho' hb'
     refine hQ.out _ _ ⟨hH.1.below HB7.out hH.1.lt,trivial⟩ (fun hH3=>?_)
     clear hQ K
     try simp only [Act.put,pA9,pZ9,pS9]
     refine wpAnyT_last 6 rfl (by kernel_rfl) (by decide) (fun K hQ=>?_)
     go_simp
     refine hQ.out _ _ hH3.1 (fun hH4=>?_)
     clear hQ K
     try simp only [Act.put,pA9,pZ9,pS9]
     refine wpAnyT_done (by kernel_rfl) ?_ _
     clear hH hH1 hH2 hH3 hH4
     go_wp2
     go_ret
     refine⟨_,rfl,?_,?_⟩
     · have h:=HCELLS.out
       rw [hl.out,EP.out,HLS.out] at h
       rw [HLEN.out,← h]
       exact ownBas HO7.out (Nat.le_trans HB1.out.size DW.out.size)
     · exact (HB1.out.trans (DW.out.mono HB1.out.size)).trans (HB7.out.mono (Nat.le_trans HB1.out.size DW.out.size))
   · rw [if_pos (by rfl)]
     refine wp_build1g 29 58 (.tmp 26) rfl 7 (by decide) (by decide) cs HW.out rfl Tryz.underlying29 Tryz.sbObj ?_
     try simp only [Act.put,pA9,pZ9,pS9]
     refine hQ.out _ _ ⟨hH.1.alloc _,trivial⟩ (fun hH1=>?_)
     clear hQ K
     try simp only [Act.put,pA9,pZ9,pS9]
     have NB:=Lh (Blk.new wd 58 cs)
     have HBA:=Lh (show Below wd.heap.size wd (wd.alloc (.cells cs 58)) from (Below.refl _ _).alloc (Nat.le_refl _) _)
     have HS6:=Lh (show wd.heap.size<(wd.alloc (.cells cs 58)).heap.size from by simp)
     obtain⟨w4,ew4⟩:∃w4,wd.alloc (.cells cs 58)=w4:=⟨_,rfl⟩
     rw [ew4] at NB HBA HS6 hH1 ⊢
     clear ew4
     obtain⟨vb,evb⟩:∃vb,wd.heap.size=vb:=⟨_,rfl⟩
     have EVB:=Lh evb
     rw [evb] at NB HS6 ⊢
     clear evb
     refine wpAnyT_one 1 rfl (by kernel_rfl) (fun K hQ=>?_)
     rw [if_pos (by rfl)]
     go_simp
     (go_at_call 93;refine (cloneObj A n cap _ _ (Lh (HR1.out.later (DW.out.trans (HBA.out.mono DW.out.size)))) (Lh (oneObj ms)) (by omega)).mono ?_;rintro e w5 ⟨v,rfl,ho,hb⟩)
     have HO:=Lh ho
     have HB5:=Lh hb
     clear ho hb
     have NB5:=Lh (NB.out.below HB5.out HS6.out)
     have HB6:=Lh (show Below wd.heap.size wd w5 from HBA.out.trans (HB5.out.mono HBA.out.size))
     have HNE:=Lh (show v.ownBlock≠some vb from fun e=>by have:=(HO.out.lt _ e).1;have:=HS6.out;omega)
     refine hQ.out _ _ ⟨hH1.1.below HB5.out hH1.1.lt,trivial⟩ (fun hH2=>?_)
     clear hQ K
     try simp only [Act.put,pA9,pZ9,pS9]
     refine wpAnyT_one 5 rfl (by kernel_rfl) (fun K hQ=>?_)
     rw [if_pos (by rfl)]
     go_simp
     (go_at_call 94;refine (insObj w4.heap.size v n (ms.flatMap omCs) p vb cs w4 _ (Lh HO.out) (Lh (oneObj ms)) (Lh HB5.out) HB5.out.size (Lh NB5.out) HW (Lh (List.all_eq_true.1 HY1.out)) HNE.out hpn (by omega)).mono ?_;rintro e w7 ⟨v',rfl,ho',hb'⟩)
     have HO7:=Lh ho'.out
     have HB7:=Lh (HBA.out.trans (hb'.mono HBA.out.size))
     clear ho' hb'
     refine hQ.out _ _ ⟨hH.1.below HB7.out hH.1.lt,trivial⟩ (fun hH3=>?_)
     clear hQ K
     try simp only [Act.put,pA9,pZ9,pS9]
     refine wpAnyT_last 6 rfl (by kernel_rfl) (by decide) (fun K hQ=>?_)
     go_simp
     refine hQ.out _ _ hH3.1 (fun hH4=>?_)
     clear hQ K
     try simp only [Act.put,pA9,pZ9,pS9]
     refine wpAnyT_done (by kernel_rfl) ?_ _
     clear hH hH1 hH2 hH3 hH4
     go_wp2
     go_ret
     refine⟨_,rfl,?_,?_⟩
     · have h:=HCELLS.out
       rw [hl.out,EP.out,HLS.out] at h
       rw [HLEN.out,← h]
       exact ownBas HO7.out (Nat.le_trans (Nat.le_trans HB1.out.size DW.out.size) HBA.out.size)
     · exact (HB1.out.trans (DW.out.mono HB1.out.size)).trans (HB7.out.mono (Nat.le_trans HB1.out.size DW.out.size))
theorem dropObj (A:Option Addr) (n cap:Nat) (ms:List OM) (kb:Nat) (k:List Nat) (w:World) (hr:Hid (Reads w w.heap.size 7 A n (ms.flatMap omCs))) (hl:Hid (ms.length=n)) (hn:n≤33554432) (hc:Hid (CapObj w kb k)) (hm:Hid (∀m ∈ ms,Byt m.x.key)) (hk1:Byt k) (hcn:n≤cap) (hcm:cap≤maxLen) :
 Calls Tryz.prog 92 #[.slice A n cap,.func (.func 77) #[] #[.pointer (some ⟨kb,0,none⟩)]] w fun e w'=>∃A' c',e = .returned (.slice A' (dropB (fL (cmpObj k) ms) ms).length c')∧Reads w' w'.heap.size 7 A' (dropB (fL (cmpObj k) ms) ms).length ((dropB (fL (cmpObj k) ms) ms).flatMap omCs)∧(dropB (fL (cmpObj k) ms) ms).length≤c'∧c'≤maxLen∧Below w.heap.size w w'∧(0<(dropB (fL (cmpObj k) ms) ms).length→∀ad,A'=some ad→A'=A∨w.heap.size≤ad.block):=by
 obtain⟨p,ep⟩:∃p,bsP (fL (cmpObj k) ms) n=p:=⟨_,rfl⟩
 have hpn:p≤n:=by rw [← ep];exact bsP_le _ _
 have HFW:=Lh (fun W h1 h2=>findObj A n cap ms kb k W h1 hl (by omega) h2 hm hk1)
 cases eb:bsB (fL (cmpObj k) ms) n with
 | true =>
   have hp:p<n:=by rw [← ep];exact bsB_lt eb
   have HCELLS:=Lh (drop_cells llObj (f:=(fL (cmpObj k) ms)) (ms:=ms) (by rw [hl.out];exact eb))
   have HLEN:=Lh (show (dropB (fL (cmpObj k) ms) ms).length=n - 1 from by rw [dropB_len,hl.out,eb,if_pos rfl])
   rw [ep,eb] at HFW
   have EP:=Lh ep
   clear ep eb
   go_enter Tryz.func92,Tryz.ntmps92
   go_wp2_with (refine (HFW.out _ hr hc).mono ?_;rintro e w1 ⟨rfl,hb⟩)
   have HB1:=Lh hb
   have HR1:=Lh (hr.out.later hb)
   clear hb
   go_wp2_with (first
    | (go_at_call 93;refine (cloneObj A n cap _ _ HR1 (Lh (oneObj ms)) (by omega)).mono ?_;rintro e w2 ⟨v,rfl,ho,hb⟩;have HO:=Lh ho;have HB2:=Lh hb;clear ho hb)
    | (go_at_call 125;refine (delObj w1.heap.size v n (ms.flatMap omCs) p w1 _ HO (Lh (oneObj ms)) HB2 hp (by omega)).mono ?_;rintro e w3 ⟨v',rfl,ho,hb⟩;have HO3:=Lh ho.out;have HB3:=Lh hb;clear ho hb))
   obtain⟨A',c',rfl,h1,h2⟩:=own_slice HO3.out
   go_ret
   refine⟨A',c',by rw [HLEN.out];rfl,?_,by rw [HLEN.out];exact h1,h2,HB1.out.trans (HB3.out.mono HB1.out.size),fun hp0 ad ead => .inr (by
    rw [HLEN.out] at hp0
    have:=(rowIn_own' HO3.out) hp0 ad ead
    have:=HB1.out.size
    omega)⟩
   have h:=HCELLS.out
   rw [hl.out,EP.out] at h
   rw [HLEN.out,← h]
   exact Reads.of_own HO3.out
 | false =>
   have HD:=Lh (show dropB (fL (cmpObj k) ms) ms=ms from by unfold dropB;rw [hl.out,eb];rfl)
   rw [ep,eb] at HFW
   clear ep eb
   go_enter Tryz.func92,Tryz.ntmps92
   go_wp2_with (refine (HFW.out _ hr hc).mono ?_;rintro e w1 ⟨rfl,hb⟩)
   have HB1:=Lh hb
   have HR1:=Lh (hr.out.later hb)
   clear hb
   go_wp2_with fail
   go_ret
   exact⟨A,cap,by rw [HD.out,hl.out];rfl,by rw [HD.out,hl.out];exact HR1.out,by rw [HD.out,hl.out];exact hcn,hcm,HB1.out,fun _ _ _ => .inl rfl⟩
end
end Go.Proofs.YtdoneomahlfkbaaGreat
