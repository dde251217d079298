/- SEARCHING A ROW: the closure that compares, the library's search, find (int). (printed by gen_mef.py); The library's Clone, Insert, Delete at rows of -/
import Derived.Test.YtdoneomahlfkbaaGreatOnc02
import Derived.Test.YtdoneomahlfkbaaGreatOnc03
set_option linter.unusedVariables false
set_option linter.unusedSimpArgs false
set_option maxRecDepth 100000
set_option maxHeartbeats 4000000
namespace Go.Proofs.YtdoneomahlfkbaaGreat
section
open Go.RowKit OctMath
def CapI64 (w:World) (kb:Nat) (k:Int):Prop:=Blk w kb 3 #[.int .i64 k]
def cmpI64 (k:Int) (m:Int):Int:=cmpV (ltI (m) k) (ltI k (m))
theorem howI64 (m:Int) (kb:Nat) (k:Int) (w:World) (hc:Hid (CapI64 w kb k)) (hm:True) (hk1:True) :
 Calls Tryz.prog 101 #[.int .i64 m,.pointer (some ⟨kb,0,none⟩)] w fun e w'=>e = .returned (.int .i64 (cmpI64 k m))∧Below w.heap.size w w':=by
 have ck:=hc.out.cell 0
 have hlt:=hc.out.lt
 simp only [List.getElem?_toArray,List.getElem?_cons_zero] at ck
 go_enter Tryz.func101,Tryz.ntmps101
 go_wp2_with (go_at_call 46;refine (cmpI _ _ _).mono ?_;rintro e w' ⟨rfl,rfl⟩)
 go_ret
 exact⟨rfl,Below.refl _ _⟩
def HbI64 (w:World) (hb kb:Nat):Prop:=Blk w hb 123 #[.func (.func 101) #[] #[.pointer (some ⟨kb,0,none⟩)]]
theorem fnI64 (m:Int) (hb kb:Nat) (k:Int) (w:World) (hc:Hid (CapI64 w kb k)) (hh:Hid (HbI64 w hb kb)) (hm:True) (hk1:True) :
 Calls Tryz.prog 132 #[.int .i64 m,.int .i64 0,.pointer (some ⟨hb,0,none⟩)] w fun e w'=>e = .returned (.int .i64 (cmpI64 k m))∧Below w.heap.size w w':=by
 have ck:=hh.out.cell 0
 have hlt:=hh.out.lt
 simp only [List.getElem?_toArray,List.getElem?_cons_zero] at ck
 go_enter Tryz.func132,Tryz.ntmps132
 go_wp2_with (go_at_call 101;refine (howI64 m kb k _ hc hm hk1).mono ?_;rintro e w' ⟨rfl,hb'⟩)
 have HB:=Lh hb'
 clear hb'
 go_ret
 exact⟨rfl,HB.out⟩
theorem bsI64 (A:Option Addr) (n cap:Nat) (ms:List Int) (hb kb:Nat) (k:Int) (w:World) (hr:Hid (Reads w w.heap.size 1 A n (ms.flatMap i1))) (hl:Hid (ms.length=n)) (hn:n≤67108864) (hc:Hid (CapI64 w kb k)) (hh:Hid (HbI64 w hb kb)) (hm:Hid (∀m ∈ ms,True)) (hk1:True) :
 Calls Tryz.prog 131 #[.slice A n cap,.int .i64 0,.func (.func 132) #[] #[.pointer (some ⟨hb,0,none⟩)]] w fun e w'=>e = .returned (.tuple #[.int .i64 (bsP (fL (cmpI64 k) ms) n:Nat),.bool (bsB (fL (cmpI64 k) ms) n)])∧Below w.heap.size w w':=by
 have hll:∀m,(i1 m).length=1:=fun _=>rfl
 have HLL:=Lh hll
 clear hll
 have HCL:=Lh hc.out.lt
 have HHL:=Lh hh.out.lt
 obtain⟨f,ef⟩:∃f,fL (cmpI64 k) ms=f:=⟨_,rfl⟩
 have EF:=Lh ef
 rw [ef]
 clear ef
 go_enter Tryz.func131,Tryz.ntmps131
 go_wp2_with fail
 go_loopw [9,10] (fun vi vj wr=>∃lo hi:Nat,lo≤n∧hi≤n∧vi = .int .i64 lo∧vj = .int .i64 hi∧Hid (BsI f n lo hi)∧Hid (Below w.heap.size w wr)) (fun vi vj _=>(intOf vj - intOf vi).toNat)
 case atStart=>exact⟨0,n,by omega,by omega,rfl,rfl,Lh (BsI.start f n),Lh (Below.refl _ _)⟩
 case round =>
  obtain⟨lo,hi,hlo,hhi,rfl,rfl,HI,HB⟩:=hrel
  by_cases hlt:lo<hi
  · have hcv:IntKind.u64.wrap ((lo:Int)+(hi:Int))=(lo:Int)+(hi:Int):=by rw [IntKind.wrap_u64];omega
    obtain⟨h,eh⟩:∃h,(lo+hi) / 2=h:=⟨_,rfl⟩
    have EH:=Lh eh
    have hhn:h<n:=by omega
    have hd:((lo:Int)+(hi:Int)) / 2=(h:Int):=by omega
    clear eh
    have hmsl:h<ms.length:=by have:=hl.out;omega
    obtain⟨ad,rfl,hadb,hcell⟩:=elem_cells HLL.out hr.out hmsl (by omega)
    have hfh:f h=cmpI64 k ms[h]:=by rw [← EF.out];exact fL_at _ hmsl
    have hwm:=hm.out ms[h] (List.getElem_mem hmsl)
    obtain⟨m,em⟩:∃m,ms[h]=m:=⟨_,rfl⟩
    rw [em] at hcell hfh
    try rw [em] at hwm
    clear em
    have HAD:=Lh hadb
    have HC1:=Lh (fun j v hv=>(HB.out.cell (p:=(ad.add (h*1)).add j) (by rw [block_of_add,block_of_add];exact hadb)).trans (hcell j v hv))
    have HF:=Lh hfh
    have HWM:=Lh hwm
    have HN:=Lh (fun W a b=>fnI64 m hb kb k W a b hwm hk1)
    have HCC:=Lh (Blk.below hc.out HB.out HCL.out)
    have HHH:=Lh (Blk.below hh.out HB.out HHL.out)
    clear hcell hfh hwm hadb hmsl
    have HC2:wr.cell? (ad.add h)=some (.int .i64 m):=by have h:=HC1.out 0 _ rfl;rw [add_of_add] at h;simpa [iv] using h
    by_cases hz:f h<0
    · have hz2:decide (cmpI64 k m<0)=true:=by rw [← HF.out];exact decide_eq_true hz
      have HI2:=Lh (HI.out.up hlt (by rw [EH.out];exact hz))
      rw [EH.out] at HI2
      clear hz
      go_wp2_with (first
       | (go_at_call 132;refine (HN.out _ HCC HHH).mono ?_;rintro e w' ⟨rfl,hb'⟩))
      have HB2:=Lh (HB.out.trans (hb'.mono HB.out.size))
      clear hb'
      go_wp2_with fail
      exact⟨⟨h+1,hi,by omega,hhi,by go_num,rfl,HI2,HB2⟩,by simp [intOf];omega⟩
    · have hz2:decide (cmpI64 k m<0)=false:=by rw [← HF.out];exact decide_eq_false hz
      have HI2:=Lh (HI.out.down hlt (by rw [EH.out];exact hz))
      rw [EH.out] at HI2
      clear hz
      go_wp2_with (first
       | (go_at_call 132;refine (HN.out _ HCC HHH).mono ?_;rintro e w' ⟨rfl,hb'⟩))
      have HB2:=Lh (HB.out.trans (hb'.mono HB.out.size))
      clear hb'
      go_wp2_with fail
      exact⟨⟨lo,h,hlo,by omega,rfl,by go_num,HI2,HB2⟩,by simp [intOf];omega⟩
  · have hp:bsP f n=lo:=HI.out.done hlt
    by_cases hln:lo<n
    · have hmsl:lo<ms.length:=by have:=hl.out;omega
      obtain⟨ad,rfl,hadb,hcell⟩:=elem_cells HLL.out hr.out hmsl (by omega)
      have hfh:f lo=cmpI64 k ms[lo]:=by rw [← EF.out];exact fL_at _ hmsl
      have hwm:=hm.out ms[lo] (List.getElem_mem hmsl)
      obtain⟨m,em⟩:∃m,ms[lo]=m:=⟨_,rfl⟩
      rw [em] at hcell hfh
      try rw [em] at hwm
      clear em
      have HC1:=Lh (fun j v hv=>(HB.out.cell (p:=(ad.add (lo*1)).add j) (by rw [block_of_add,block_of_add];exact hadb)).trans (hcell j v hv))
      have HN:=Lh (fun W a b=>fnI64 m hb kb k W a b hwm hk1)
      have HCC:=Lh (Blk.below hc.out HB.out HCL.out)
      have HHH:=Lh (Blk.below hh.out HB.out HHL.out)
      have HC2:wr.cell? (ad.add lo)=some (.int .i64 m):=by have h:=HC1.out 0 _ rfl;rw [add_of_add] at h;simpa [iv] using h
      have hbf:bsB f n=(cmpI64 k m == 0):=by unfold bsB;rw [hp,decide_eq_true hln,hfh];rfl
      have HP:=Lh (And.intro hp hbf)
      have d1:decide (lo<n)=true:=decide_eq_true hln
      obtain⟨z,ez⟩:∃z,cmpI64 k m=z:=⟨_,rfl⟩
      rw [ez] at HP HN
      clear hcell hfh hwm hadb hmsl hp hbf ez
      cases e0:z == 0
      all_goals
       rw [e0] at HP
       go_wp2_with (first
        | (go_at_call 132;refine (HN.out _ HCC HHH).mono ?_;rintro e w' ⟨rfl,hb'⟩))
       have HB2:=Lh (HB.out.trans (hb'.mono HB.out.size))
       clear hb'
       go_wp2_with fail
       go_ret2
       exact⟨by rw [HP.out.1,HP.out.2];rfl,HB2.out⟩
    · have hbf:bsB f n=false:=by unfold bsB;rw [hp,decide_eq_false hln];rfl
      have HP:=Lh (And.intro hp hbf)
      clear hp hbf
      go_wp2_with fail
      go_ret2
      exact⟨by rw [HP.out.1,HP.out.2];rfl,HB.out⟩
theorem mkI64 (k:Int) (w:World):Calls Tryz.prog 69 #[.int .i64 k] w fun e w'=>e = .returned (.func (.func 101) #[] #[.pointer (some ⟨w.heap.size,0,none⟩)])∧CapI64 w' w.heap.size k∧Below w.heap.size w w':=by
 go_enter Tryz.func69,Tryz.ntmps69
 go_wp2
 go_ret
 exact⟨rfl,Blk.new w _ _,(Below.refl _ _).alloc (Nat.le_refl _) _⟩
theorem findI64 (A:Option Addr) (n cap:Nat) (ms:List Int) (kb:Nat) (k:Int) (w:World) (hr:Hid (Reads w w.heap.size 1 A n (ms.flatMap i1))) (hl:Hid (ms.length=n)) (hn:n≤67108864) (hc:Hid (CapI64 w kb k)) (hm:Hid (∀m ∈ ms,True)) (hk1:True) :
 Calls Tryz.prog 99 #[.slice A n cap,.func (.func 101) #[] #[.pointer (some ⟨kb,0,none⟩)]] w fun e w'=>e = .returned (.tuple #[.int .i64 (bsP (fL (cmpI64 k) ms) n:Nat),.bool (bsB (fL (cmpI64 k) ms) n)])∧Below w.heap.size w w':=by
 have HR:=Lh ((hr.out.alloc (Nat.le_refl _) (.cells #[.func (.func 101) #[] #[.pointer (some ⟨kb,0,none⟩)]] 123)).more (B':=(w.alloc (.cells #[.func (.func 101) #[] #[.pointer (some ⟨kb,0,none⟩)]] 123)).heap.size) (by simp))
 have HC:Hid (CapI64 _ kb k):=Lh (Blk.alloc (show Blk w kb 3 #[.int .i64 k] from hc.out) (.cells #[.func (.func 101) #[] #[.pointer (some ⟨kb,0,none⟩)]] 123))
 have HH:=Lh (Blk.new w 123 #[.func (.func 101) #[] #[.pointer (some ⟨kb,0,none⟩)]])
 have HB:=Lh (bsI64 A n cap ms w.heap.size kb k _ HR hl hn HC HH hm hk1)
 go_enter Tryz.func99,Tryz.ntmps99
 go_wp2_with (refine HB.out.mono ?_;rintro e w' ⟨rfl,hb'⟩)
 have HB2:=Lh hb'
 clear hb'
 go_ret2
 exact⟨rfl,((Below.refl _ _).alloc (Nat.le_refl _) _).trans (HB2.out.mono (by simp))⟩
end
section
open Go.RowKit
theorem Tryz.zI64:(Tryz.prog.info? 3).map (fun i=>(i.zero,i.size,i.bytes))=some (some (.int .i64 0),1,8):=by kernel_rfl
theorem cloneI64 (A:Option Addr) (n cap:Nat) (C:List Value) (w:World) (hr:Hid (Reads w w.heap.size 1 A n C)) (h1:Hid (OneC C)) (hn:n≤67108864) :
 Calls Tryz.prog 31 #[.slice A n cap] w (RetRow 3 1 n C w):=by
 have k0:=fun W:World=>Lib.run_eql_slice_nil (P:=Tryz.prog) W 28 3 A n cap 0 0 Tryz.underlying28
 cases A with
 | none =>
   have h0:n=0:=by
    rcases Nat.eq_zero_or_pos n with h | h
    · exact h
    · obtain⟨_,h1,_⟩:=hr.out.2 h;cases h1
   subst h0
   obtain rfl:C=[]:=List.eq_nil_of_length_eq_zero (by have:=hr.out.1;omega)
   go_enter Tryz.func31,Tryz.ntmps31
   go_wp2
   go_ret
   exact⟨_,rfl,⟨rfl,.inl ⟨rfl,rfl⟩⟩,Below.refl _ _⟩
 | some ad =>
   simp only [Option.isNone_some] at k0
   go_enter Tryz.func31,Tryz.ntmps31
   go_wp2_with (at_builtin
                refine wpl_append rfl (.tmp 5) (.tmp 6) _ rfl w w.heap.size 3 _ 1 8 Tryz.underlying28 Tryz.zI64 rfl (by decide) (.slice (some ⟨w.heap.size,0,none⟩) 0 0) 0 [] rfl ?own (w.heap.size+1) (some ad) n cap C rfl ?rd h1.out (by omega) (by decide) ?bel ?base ?_
                case own=>exact World.ownsRow_lit _ #[] 0 (Nat.le_refl _) (by unfold maxLen;omega) rfl
                case rd=>exact (hr.out.alloc (Nat.le_refl _) _).more (by simp)
                case bel=>exact (Below.refl _ _).alloc (Nat.le_refl _) _
                case base=>simp
                intro v1 w1 hh)
   go_ret
   refine⟨v1,rfl,?_,hh.out.2.1⟩
   have h:=hh.out.1
   simpa using h
def InsI64 (base:Nat) (v:Value) (n:Nat) (C:List Value) (i vb:Nat) (ys:Array Value) (w0 w:World):Prop :=
 Calls Tryz.prog 100 #[v,.int .i64 (i:Int),.slice (some ⟨vb,0,none⟩) 1 1] w fun e w' =>
  ∃v',e = .returned v'∧Hid (w'.ownsRow base 3 1 v' (n+1) (insC C ys.toList (i*1)))∧Below base w0 w'
section
variable (base:Nat) (v:Value) (n:Nat) (C:List Value) (i vb:Nat) (ys:Array Value) (w0 w:World)
theorem insI64_end (hown:Hid (w.ownsRow base 3 1 v n C)) (hB:Hid (Below base w0 w)) (hbase:base≤w.heap.size) (hv:Hid (Blk w vb 3 ys)) (hy:Hid (ys.size=1)) (h1:Hid (OneC ys.toList)) (hi:i=n) (hn:n≤67108864) :
 InsI64 base v n C i vb ys w0 w:=by
 unfold InsI64
 subst hi
 obtain⟨ii,hi1,hi2,hi3,hi4⟩:=info_parts Tryz.zI64
 obtain⟨A,cap,rfl,h1',h2⟩:=own_slice hown.out
 have hsl:=slice_from (P:=Tryz.prog) Tryz.underlying28 hi1 hi3 A i cap i (Nat.le_refl _) h1'
 generalize (Value.slice (if cap=i then A else A.map (·.add (i*1))) (i - i) (cap - i))=sv at hsl
 have HRD:=Lh (show Reads w w.heap.size 1 (some ⟨vb,0,none⟩) 1 ys.toList from ⟨by have:=hy.out;simp [this],fun _=>⟨_,rfl,hv.out.lt,fun j u hu=>by
  rw [addr0,hv.out.cell]
  simpa using hu⟩⟩)
 unfold maxLen at h2
 clear hi1 hi2 hi3 hi4
 go_enter Tryz.func100,Tryz.ntmps100
 go_wp2_with (at_builtin
              refine wpl_append rfl (.tmp 23) (.tmp 24) _ rfl w0 base 3 _ 1 8 Tryz.underlying28 Tryz.zI64 rfl (by decide) (.slice A i cap) i C rfl hown.out w.heap.size (some ⟨vb,0,none⟩) 1 1 ys.toList rfl HRD.out h1.out (by omega) (by decide) hB.out hbase ?_
              intro v1 w1 hh)
 go_ret
 refine⟨v1,rfl,Lh ?_,hh.out.2.1⟩
 have h:=hh.out.1
 have hlen:C.length=i*1:=hown.out.1
 unfold insC
 rw [← hlen,List.take_length,List.drop_length,List.append_nil]
 exact h
theorem insI64_room (g c:Nat) (hown:Hid (w.ownsRow base 3 1 (.slice (some ⟨g,0,none⟩) n c) n C)) (hC:Hid (OneC C)) (hB:Hid (Below base w0 w)) (hv:Hid (Blk w vb 3 ys)) (hys:Hid (ys.size=1)) (hy1:Hid (OneC ys.toList)) (hne:g≠vb) (hi:i<n) (hn:n≤67108864) (hr:n+1≤c) :
 InsI64 base (.slice (some ⟨g,0,none⟩) n c) n C i vb ys w0 w:=by
 unfold InsI64
 obtain⟨ii,hi1,hi2,hi3,hi4⟩:=info_parts Tryz.zI64
 obtain⟨cur,hbg,hg,hcm,hsz,htk⟩:∃cur:Array Value,base≤g∧w.heap[g]?=some (.cells cur 3 (0,0))∧c≤maxLen∧cur.size=c*1∧cur.toList.take (n*1)=C:=by
  rcases hown.out.2 with ⟨h,_⟩ | ⟨g',cap',cur,ev,q1,q2,q3,q4,q5,q6⟩
  · cases h
  · injection ev with e1 e2 e3
    injection e1 with e1
    injection e1 with e1
    subst e1
    subst e3
    exact⟨cur,q1,q2,q4,q5,q6⟩
 have hlen:C.length=n*1:=hown.out.1
 have hyl:ys.toList.length=1:=by have:=hys.out;simpa using this
 have hcl:(C.drop (i*1)).length=(n - i)*1:=by rw [List.length_drop,hlen];omega
 have hgl:∀j,j<n*1→cur.toList[j]?=C[j]?:=fun j hj=>by rw [← htk,List.getElem?_take_of_lt hj]
 have hsl:=slice_from (P:=Tryz.prog) Tryz.underlying28 hi1 hi3 (some ⟨g,0,none⟩) n c i (by omega) (by omega)
 generalize (Value.slice (if c=i then some ⟨g,0,none⟩ else (some ⟨g,0,none⟩:Option Addr).map (·.add (i*1))) (n - i) (c - i))=sv at hsl
 have hs1:=slice_to (P:=Tryz.prog) Tryz.underlying28 hi1 hi3 (some ⟨g,0,none⟩) n c (n+1) hr
 have hs2:=slice_from (P:=Tryz.prog) Tryz.underlying28 hi1 hi3 (some ⟨g,0,none⟩) (n+1) c (i+1) (by omega) (by omega)
 have hs3:=slice_from (P:=Tryz.prog) Tryz.underlying28 hi1 hi3 (some ⟨g,0,none⟩) (n+1) c i (by omega) (by omega)
 rw [if_neg (by omega),Option.map_some,addr0,show n+1 - (i+1)=n - i by omega] at hs2
 rw [if_neg (by omega),Option.map_some,addr0] at hs3
 have e1:((n+1:Nat):Int)=(n:Int)+1:=by omega
 have e2:((i+1:Nat):Int)=(i:Int)+1:=by omega
 rw [e1] at hs1
 rw [e2] at hs2
 have hw1:IntKind.i64.wrap ((i:Int)+1)=(i:Int)+1:=by rw [IntKind.wrap_i64];omega
 have hnq:((i:Int) == (n:Int))=false:=by rw [beq_eq_false_iff_ne];omega
 have hgt:decide ((n:Int)+1>(c:Int))=false:=decide_eq_false (by omega)
 have hgt2:decide ((c:Int)<(n:Int)+1)=false:=decide_eq_false (by omega)
 have hz:∀W:World,(sizeOf 3).run Tryz.prog W = .ok 1 W:=fun W=>by simp [sizeOf,typeInfo,hi1,hi3]
 have hov:∀lb cb (W:World),W.heap=w.heap→(callFunc 133 #[.slice (some ⟨vb,0,none⟩) 1 1,.slice (some ⟨g,(i+1)*1,none⟩) lb cb]).run Tryz.prog W = .ok (.value (.bool false)) W:=fun lb cb W hW=>by
  have hvW:W.heap[vb]?=some (.cells ys 3 (0,0)):=by rw [hW];exact hv.out
  have hgW:W.heap[g]?=some (.cells cur 3 (0,0)):=by rw [hW];exact hg
  rw [run_callFunc_extern Tryz.func133 (by kernel_rfl) (by kernel_rfl) (by kernel_rfl) (e:=Extern.SlicesOverlaps.overlaps #[28,28] #[4]) (by kernel_rfl),
   Lib.run_overlaps_apart W 28 4 3 Tryz.underlying28 1 hz ⟨vb,0,none⟩ ⟨g,(i+1)*1,none⟩ 1 1 lb cb (fun h=>hne h.symm) 3 3 1 cur.size (by simp [World.shape?,hvW,hys.out]) (by simp [World.shape?,hgW]) (by omega) (by simp [World.frozen?,hvW]) (by simp [World.frozen?,hvW])]
  rfl
 have hszi:(Tryz.prog.info? 3).map (·.size)=some 1:=by rw [hi1];simp [hi3]
 have hcl5:cur.toList.length=c*1:=by simpa using hsz
 obtain⟨cur1,hc1⟩:∃cur1:Array Value,cur1=(cur.toList.take ((i+1)*1) ++ C.drop (i*1) ++ cur.toList.drop ((i+1)*1+(n - i)*1)).toArray:=⟨_,rfl⟩
 have hs1z:cur1.size=c*1:=by rw [hc1];simp only [List.size_toArray,List.length_append,List.length_take,List.length_drop,hlen,hcl5];omega
 obtain⟨cur2,hc2⟩:∃cur2:Array Value,cur2=(cur1.toList.take (i*1) ++ ys.toList ++ cur1.toList.drop (i*1+1)).toArray:=⟨_,rfl⟩
 have hcp1:∀ (W:World),W.heap=w.heap→∀ty dc sc,(Builtin.copy_ #[28,28] ty #[.slice (some ⟨g,(i+1)*1,none⟩) (n - i) dc,.slice (some ⟨g,i*1,none⟩) (n+1 - i) sc]).run Tryz.prog W = .ok (goInt (n - i:Nat)) (W.setRow g cur1):=fun W hW ty dc sc=>by
  have h:=run_copy_rowK (P:=Tryz.prog) W 28 28 ty 3 g ((i+1)*1) (n - i) dc ⟨g,i*1,none⟩ (n+1 - i) sc cur 3 (C.drop (i*1)) 1 (n - i) Tryz.underlying28 hszi (by rw [hW];exact hg) (by simp only [Nat.min_def];split <;> omega) hcl (fun j v hj=>by
   have hjl:j<(n - i)*1:=by have:=(List.getElem?_eq_some_iff.1 hj).1;omega
   rw [addrK,cell_of_row W g (i*1+j) cur 3 (0,0) (by rw [hW];exact hg)]
   rw [List.getElem?_drop,← hgl _ (by omega)] at hj
   simpa using hj) (by rw [hcl];omega) (hC.out.drop _)
  rw [hcl,← hc1] at h
  exact h
 have hcp2:∀ (W:World),W.heap[g]?=some (.cells cur1 3 (0,0))→W.heap[vb]?=some (.cells ys 3 (0,0))→∀ty dc,(Builtin.copy_ #[28,28] ty #[.slice (some ⟨g,i*1,none⟩) (n+1 - i) dc,.slice (some ⟨vb,0,none⟩) 1 1]).run Tryz.prog W = .ok (goInt (1:Nat)) (W.setRow g cur2):=fun W hW hW2 ty dc=>by
  have h:=run_copy_rowK (P:=Tryz.prog) W 28 28 ty 3 g (i*1) (n+1 - i) dc ⟨vb,0,none⟩ 1 1 cur1 3 ys.toList 1 1 Tryz.underlying28 hszi hW (by simp only [Nat.min_def];split <;> omega) (by rw [hyl]) (fun j v hj=>by
   rw [addr0,cell_of_row W vb j _ 3 (0,0) hW2]
   simpa using hj) (by rw [hs1z,hyl];omega) hy1.out
  rw [hyl,← hc2] at h
  exact h
 have hfin:cur2.toList.take ((n+1)*1)=insC C ys.toList (i*1):=by
  have h:=insK_list cur.toList (C.drop (i*1)) ys.toList 1 (i*1) ((n - i)*1) hcl hyl (by rw [hcl5];omega)
  rw [hc2,hc1]
  rw [show (i+1)*1=i*1+1 by omega,show (n+1)*1=i*1+1+(n - i)*1 by omega]
  rw [h]
  have h2:cur.toList.take (i*1)=C.take (i*1):=by
   rw [← htk,List.take_take,Nat.min_eq_left (by omega)]
  rw [h2]
  rfl
 have hs2z:cur2.size=c*1:=by rw [hc2];simp only [List.size_toArray,List.length_append,List.length_take,List.length_drop,Array.length_toList,hs1z,hyl,hys.out];omega
 have hinl:(insC C ys.toList (i*1)).length=(n+1)*1:=by rw [insC_len (by omega),hyl,hlen];omega
 have HFIN:=Lh (And.intro hfin (And.intro hs2z hinl))
 have HG:=Lh hg
 have HBG:=Lh hbg
 have HCM:=Lh hcm
 have HV:=hv
 have hge:g<w.heap.size:=(Blk.lt (cs:=cur) (t:=3) hg)
 clear hc1 hc2 hfin hs2z hs1z hg hszi hcl5 hcl hgl htk hsz hlen hbg hcm hyl hinl
 unfold maxLen at HCM
 obtain⟨w5,hw5⟩:∃w5,w.drew.setRow g cur1=w5:=⟨_,rfl⟩
 have hc9:=hcp1 w.drew rfl 3 (c - (i+1)) (c - i)
 rw [hw5] at hc9
 have HB5:=Lh (show Below base w0 w5 from by rw [← hw5];exact below_setRow (bel_drewN hB.out 1) HBG.out _)
 have hg5:w5.heap[g]?=some (.cells cur1 3 (0,0)):=by rw [← hw5];exact setRow_heap w.drew g _ _ _ _ HG.out
 have hv5:w5.heap[vb]?=some (.cells ys 3 (0,0)):=by rw [← hw5];exact (setRow_other w.drew g vb _ (fun h=>hne h.symm)).trans hv.out
 have HG5:=Lh hg5
 have hc10:=hcp2 w5 hg5 hv5 3 (c - i)
 clear hw5 hg5 hv5 hcp1 hcp2
 try simp only [Nat.mul_one] at hs2
 try simp only [Nat.mul_one] at hs3
 try simp only [Nat.mul_one] at hov
 try simp only [Nat.mul_one] at hc9
 try simp only [Nat.mul_one] at hc10
 go_enter Tryz.func100,Tryz.ntmps100
 go_wp2_with (simp only [hov _ _ _ rfl])
 go_region
 clear hc9
 go_wp2
 go_ret
 refine⟨_,rfl,Lh ⟨HFIN.out.2.2,.inr ⟨g,c,cur2,rfl,HBG.out,setRow_heap _ g _ _ _ _ HG5.out,hr,HCM.out,HFIN.out.2.1,HFIN.out.1⟩⟩,?_⟩
 exact below_setRow HB5.out HBG.out _
theorem insI64_grow (g c:Nat) (hown:Hid (w.ownsRow base 3 1 (.slice (some ⟨g,0,none⟩) n c) n C)) (hC:Hid (OneC C)) (hB:Hid (Below base w0 w)) (hv:Hid (Blk w vb 3 ys)) (hys:Hid (ys.size=1)) (hy1:Hid (OneC ys.toList)) (hne:g≠vb) (hi:i<n) (hn:n≤67108864) (hr:c<n+1) (hcn:n≤c) (hbase:base≤w.heap.size) :
 InsI64 base (.slice (some ⟨g,0,none⟩) n c) n C i vb ys w0 w:=by
 unfold InsI64
 obtain⟨ii,hi1,hi2,hi3,hi4⟩:=info_parts Tryz.zI64
 obtain⟨cur,hbg,hg,hcm,hsz,htk⟩:∃cur:Array Value,base≤g∧w.heap[g]?=some (.cells cur 3 (0,0))∧c≤maxLen∧cur.size=c*1∧cur.toList.take (n*1)=C:=by
  rcases hown.out.2 with ⟨h,_⟩ | ⟨g',cap',cur,ev,q1,q2,q3,q4,q5,q6⟩
  · cases h
  · injection ev with e1 e2 e3
    injection e1 with e1
    injection e1 with e1
    subst e1
    subst e3
    exact⟨cur,q1,q2,q4,q5,q6⟩
 have hlen:C.length=n*1:=hown.out.1
 have hyl:ys.toList.length=1:=by have:=hys.out;simpa using this
 have hcl:(C.drop (i*1)).length=(n - i)*1:=by rw [List.length_drop,hlen];omega
 have hgl:∀j,j<n*1→cur.toList[j]?=C[j]?:=fun j hj=>by rw [← htk,List.getElem?_take_of_lt hj]
 have hsl:=slice_from (P:=Tryz.prog) Tryz.underlying28 hi1 hi3 (some ⟨g,0,none⟩) n c i (by omega) (by omega)
 rw [if_neg (by omega),Option.map_some,addr0] at hsl
 have hs1:=slice_to (P:=Tryz.prog) Tryz.underlying28 hi1 hi3 (some ⟨g,0,none⟩) n c i (by omega)
 have hgh:g<w.heap.size:=(Blk.lt (cs:=cur) (t:=3) hg)
 have hvh:vb<w.heap.size:=hv.out.lt
 have hszi:(Tryz.prog.info? 3).map (·.size)=some 1:=by rw [hi1];simp [hi3]
 have htl:(C.take (i*1)).length=i*1:=by rw [List.length_take,hlen];omega
 have hold:(Builtin.firstCells ii.size i (.slice (some ⟨g,0,none⟩) i c)).run Tryz.prog w.drew = .ok (C.take (i*1)).toArray w.drew:=by
  rw [hi3]
  exact run_firstCells_some w.drew 1 i ⟨g,0,none⟩ i c (C.take (i*1)) htl (fun j v hj=>by
   have hjl:j<i*1:=by have:=(List.getElem?_eq_some_iff.1 hj).1;omega
   rw [addr0,cell_of_row w.drew g j cur 3 (0,0) hg]
   rw [List.getElem?_take_of_lt hjl,← hgl _ (by omega)] at hj
   simpa using hj)
 have hrz:=Lib.run_append_grow_zeros (P:=Tryz.prog) w 28 3 28 3 ii _ .i64 .i64 Tryz.underlying28 Tryz.underlying3 hi1 hi2 (some ⟨g,0,none⟩) i c (C.take (i*1)) hold (n+1 - i) (by omega) (by omega) (by omega) (by omega) (by rw [hi4];omega) (by rw [hi4];exact growslice_fits (by omega) (by omega))
 rw [show i+(n+1 - i)=n+1 by omega,show ((n+1 - i:Nat):Int)=(n:Int)+1 - (i:Int) by omega] at hrz
 have hGn:n+1≤grownCap w (n+1) c 3:=grownCap_ge w _ _ _
 have hG63:=grownCap_le_maxLen w (n+1) c 3 (by unfold maxLen;omega)
 generalize grownCap w (n+1) c 3=G at *
 obtain⟨ROW,hROW⟩:∃ROW:Array Value,ROW=(C.take (i*1)).toArray ++ Builtin.zeroCells (Value.int .i64 0).cells (n+1 - i) ++ Builtin.zeroCells (Value.int .i64 0).cells (G - (n+1)):=⟨_,rfl⟩
 have hRz:ROW.size=G*1:=by
  rw [hROW]
  simp only [Array.size_append,List.size_toArray,htl]
  have hzc:∀k,(Builtin.zeroCells (Value.int .i64 0).cells k).size=k*1:=fun k=>by simp [Builtin.zeroCells,Value.cells]
  rw [hzc,hzc]
  omega
 have hRt:ROW.toList.take (i*1)=C.take (i*1):=by
  rw [hROW]
  simp only [Array.toList_append,List.append_assoc]
  rw [List.take_append_of_le_length (by omega),List.take_of_length_le (by omega)]
 rw [← hROW] at hrz
 obtain⟨H,hH⟩:∃H,H=w.heap.size:=⟨_,rfl⟩
 obtain⟨w1,hw1⟩:∃w1,w.drew.alloc (.cells ROW 3)=w1:=⟨_,rfl⟩
 rw [hw1,← hH] at hrz
 have hRl:ROW.toList.length=G*1:=by simpa using hRz
 have g1:w1.heap[H]?=some (.cells ROW 3 (0,0)):=by rw [← hw1,hH];exact Blk.new w.drew _ _
 have v1:w1.heap[vb]?=some (.cells ys 3 (0,0)):=by rw [← hw1];exact (Blk.alloc (w:=w.drew) hv.out _)
 have c1:w1.heap[g]?=some (.cells cur 3 (0,0)):=by rw [← hw1];exact (Blk.alloc (w:=w.drew) hg _)
 have hB1:Below base w0 w1:=by rw [← hw1];exact (bel_drewN hB.out 1).alloc hbase _
 obtain⟨row1,hr1⟩:∃row1:Array Value,row1=(ROW.toList.take (i*1) ++ ys.toList ++ ROW.toList.drop (i*1+1)).toArray:=⟨_,rfl⟩
 have hr1z:row1.size=G*1:=by rw [hr1];simp only [List.size_toArray,List.length_append,List.length_take,List.length_drop,hRl,hyl];omega
 have hs2:=slice_from (P:=Tryz.prog) Tryz.underlying28 hi1 hi3 (some ⟨H,0,none⟩) (n+1) G i (by omega) hGn
 rw [if_neg (by omega),Option.map_some,addr0] at hs2
 have hs3:=slice_from (P:=Tryz.prog) Tryz.underlying28 hi1 hi3 (some ⟨H,0,none⟩) (n+1) G (i+1) (by omega) hGn
 rw [if_neg (by omega),Option.map_some,addr0,show n+1 - (i+1)=n - i by omega,show ((i+1:Nat):Int)=(i:Int)+1 by omega] at hs3
 have hcA:=run_copy_rowK (P:=Tryz.prog) w1 28 28 3 3 H (i*1) (n+1 - i) (G - i) ⟨vb,0,none⟩ 1 1 ROW 3 ys.toList 1 1 Tryz.underlying28 hszi g1 (by simp only [Nat.min_def];split <;> omega) (by rw [hyl]) (fun j v hj=>by
  rw [addr0,cell_of_row w1 vb j _ 3 (0,0) v1]
  simpa using hj) (by rw [hRz,hyl];omega) hy1.out
 rw [hyl,← hr1] at hcA
 obtain⟨w2,hw2⟩:∃w2,w1.setRow H row1=w2:=⟨_,rfl⟩
 rw [hw2] at hcA
 have g2:w2.heap[H]?=some (.cells row1 3 (0,0)):=by rw [← hw2];exact setRow_heap w1 H _ _ _ _ g1
 have c2:w2.heap[g]?=some (.cells cur 3 (0,0)):=by rw [← hw2];exact (setRow_other w1 H g _ (by omega)).trans c1
 have hB2:Below base w0 w2:=by rw [← hw2];exact below_setRow hB1 (by omega) _
 obtain⟨row2,hr2⟩:∃row2:Array Value,row2=(row1.toList.take ((i+1)*1) ++ C.drop (i*1) ++ row1.toList.drop ((i+1)*1+(n - i)*1)).toArray:=⟨_,rfl⟩
 have hr1l:row1.toList.length=G*1:=by simpa using hr1z
 have hr2z:row2.size=G*1:=by rw [hr2];simp only [List.size_toArray,List.length_append,List.length_take,List.length_drop,hlen,hr1l];omega
 have hcB:=run_copy_rowK (P:=Tryz.prog) w2.drew 28 28 3 3 H ((i+1)*1) (n - i) (G - (i+1)) ⟨g,i*1,none⟩ (n - i) (c - i) row1 3 (C.drop (i*1)) 1 (n - i) Tryz.underlying28 hszi g2 (by simp only [Nat.min_def];split <;> omega) hcl (fun j v hj=>by
  have hjl:j<(n - i)*1:=by have:=(List.getElem?_eq_some_iff.1 hj).1;omega
  rw [addrK,cell_of_row w2.drew g (i*1+j) cur 3 (0,0) c2]
  rw [List.getElem?_drop,← hgl _ (by omega)] at hj
  simpa using hj) (by rw [hr1z,hcl];omega) (hC.out.drop _)
 rw [hcl,← hr2] at hcB
 obtain⟨w3,hw3⟩:∃w3,w2.drew.setRow H row2=w3:=⟨_,rfl⟩
 rw [hw3] at hcB
 have HB3:=Lh (show Below base w0 w3 from by rw [← hw3];exact below_setRow (bel_drewN hB2 1) (by omega) _)
 have HG3:=Lh (show w3.heap[H]?=some (.cells row2 3 (0,0)) from by rw [← hw3];exact setRow_heap w2.drew H _ _ _ _ g2)
 have hfin:row2.toList.take ((n+1)*1)=insC C ys.toList (i*1):=by
  have h:=insK_list2 ROW.toList (C.drop (i*1)) ys.toList 1 (i*1) ((n - i)*1) hcl hyl (by rw [hRl];omega)
  rw [hr2,hr1]
  rw [show (i+1)*1=i*1+1 by omega,show (n+1)*1=i*1+1+(n - i)*1 by omega]
  rw [h,hRt]
  rfl
 have hinl:(insC C ys.toList (i*1)).length=(n+1)*1:=by rw [insC_len (by omega),hyl,hlen];omega
 have HFIN:=Lh (And.intro hfin (And.intro hr2z hinl))
 have HH:=Lh (show base≤H from by omega)
 have hw9:IntKind.i64.wrap ((i:Int)+1)=(i:Int)+1:=by rw [IntKind.wrap_i64];omega
 have hnq:((i:Int) == (n:Int))=false:=by rw [beq_eq_false_iff_ne];omega
 have hgt:decide ((n:Int)+1>(c:Int))=true:=decide_eq_true (by omega)
 have hgt2:decide ((c:Int)<(n:Int)+1)=true:=decide_eq_true (by omega)
 unfold maxLen at hG63
 have HG6:=Lh (And.intro hGn hG63)
 clear hfin hr2z hr1l hr2 hw3 hw2 hw1 hr1 hr1z hRl hRt hRz hROW hold hszi hgl hcl htk hsz hg hbg hcm hB1 hB2 g1 g2 v1 c1 c2 hH hi1 hi2 hi3 hi4 hlen hgh hvh hyl hinl htl
 try simp only [Nat.mul_one] at hsl
 try simp only [Nat.mul_one] at hs1
 try simp only [Nat.mul_one] at hs2
 try simp only [Nat.mul_one] at hs3
 try simp only [Nat.mul_one] at hrz
 try simp only [Nat.mul_one] at hcA
 try simp only [Nat.mul_one] at hcB
 go_enter Tryz.func100,Tryz.ntmps100
 go_wp2_with (at_builtin;refine Lib.wpList_append_run _ rfl _ _ _ _ rfl _ _ rfl rfl _ _ hrz ?_)
 clear hrz hcA
 go_region
 clear hcB
 go_wp2
 go_ret
 exact⟨_,rfl,Lh ⟨HFIN.out.2.2,.inr ⟨H,G,row2,rfl,HH.out,HG3.out,HG6.out.1,HG6.out.2,HFIN.out.2.1,HFIN.out.1⟩⟩,HB3.out⟩
theorem insI64 (hown:Hid (w.ownsRow base 3 1 v n C)) (hC:Hid (OneC C)) (hB:Hid (Below base w0 w)) (hbase:base≤w.heap.size) (hv:Hid (Blk w vb 3 ys)) (hys:Hid (ys.size=1)) (hy1:Hid (OneC ys.toList)) (hne:v.ownBlock≠some vb) (hi:i≤n) (hn:n≤67108864) :
 InsI64 base v n C i vb ys w0 w:=by
 by_cases c1:i=n
 · exact insI64_end base v n C i vb ys w0 w hown hB hbase hv hys hy1 c1 hn
 · obtain⟨g,c,rfl⟩:∃g c,v = .slice (some ⟨g,0,none⟩) n c:=by
    rcases hown.out.2 with ⟨_,h⟩ | ⟨g',cap',cur,ev,_⟩
    · have:=hown.out.1
      rw [h] at this
      simp at this
      omega
    · exact⟨g',cap',ev⟩
   have hcn:n≤c:=by
    obtain⟨_,_,ev,q1,q2⟩:=own_slice hown.out
    injection ev with _ _ ev
    subst ev
    exact q1
   have hg:g≠vb:=fun h=>hne (by rw [h];rfl)
   by_cases c2:n+1≤c
   · exact insI64_room base n C i vb ys w0 w g c hown hC hB hv hys hy1 hg (by omega) hn c2
   · exact insI64_grow base n C i vb ys w0 w g c hown hC hB hv hys hy1 hg (by omega) hn (by omega) hcn hbase
end
theorem delI64 (base:Nat) (v:Value) (n:Nat) (C:List Value) (i:Nat) (w0 w:World) (hown0:Hid (w.ownsRow base 3 1 v n C)) (hC:Hid (OneC C)) (hB:Hid (Below base w0 w)) (hi:i<n) (hn:n≤67108864) :
 Calls Tryz.prog 106 #[v,.int .i64 (i:Int),.int .i64 ((i:Int)+1)] w fun e w'=>∃v',e = .returned v'∧Hid (w'.ownsRow base 3 1 v' (n - 1) (C.take (i*1) ++ C.drop ((i+1)*1)))∧Below base w0 w':=by
 obtain⟨g,c,rfl⟩:∃g c,v = .slice (some ⟨g,0,none⟩) n c:=by
  rcases hown0.out.2 with ⟨_,h⟩ | ⟨g',cap',cur,ev,_⟩
  · have:=hown0.out.1
    rw [h] at this
    simp at this
    omega
  · exact⟨g',cap',ev⟩
 have hown:=hown0
 clear hown0
 obtain⟨ii,hi1,hi2,hi3,hi4⟩:=info_parts Tryz.zI64
 obtain⟨cur,hbg,hg,hcn,hcm,hsz,htk⟩:∃cur:Array Value,base≤g∧w.heap[g]?=some (.cells cur 3 (0,0))∧n≤c∧c≤maxLen∧cur.size=c*1∧cur.toList.take (n*1)=C:=by
  rcases hown.out.2 with ⟨h,_⟩ | ⟨g',cap',cur,ev,q1,q2,q3,q4,q5,q6⟩
  · cases h
  · injection ev with e1 e2 e3
    injection e1 with e1
    injection e1 with e1
    subst e1
    subst e3
    exact⟨cur,q1,q2,q3,q4,q5,q6⟩
 have hlen:C.length=n*1:=hown.out.1
 obtain⟨m,em⟩:∃m,n - (i+1)=m:=⟨_,rfl⟩
 obtain⟨p,ep⟩:∃p,i+m=p:=⟨_,rfl⟩
 have hpn:p+1=n:=by omega
 obtain⟨news,hnews⟩:∃news,news=C.drop ((i+1)*1):=⟨_,rfl⟩
 have hnl:news.length=m*1:=by rw [hnews,List.length_drop,hlen];omega
 have hgl:∀j,j<n*1→cur.toList[j]?=C[j]?:=fun j hj=>by rw [← htk,List.getElem?_take_of_lt hj]
 have hBk:Blk w.drew g 3 cur:=hg
 obtain⟨A,hA,hsrc⟩:∃A:Addr,(if c=i+1 then (some ⟨g,0,none⟩:Option Addr) else some ⟨g,(i+1)*1,none⟩)=some A∧Hid (∀t u,news[t]?=some u→w.drew.cell? (A.add t)=some u):=by
  by_cases h:c=i+1
  · refine⟨⟨g,0,none⟩,by simp [h],fun t u hu=>?_⟩
    have h0:news.length=0:=by rw [hnl];omega
    rw [List.length_eq_zero_iff.1 h0] at hu
    simp at hu
  · refine⟨⟨g,(i+1)*1,none⟩,by simp [h],fun t u hu=>?_⟩
    have ht:t<m*1:=by
     have:=(List.getElem?_eq_some_iff.1 hu).1
     rwa [hnl] at this
    rw [addrK,hBk.cell]
    rw [hnews,List.getElem?_drop,← hgl _ (by omega)] at hu
    simpa using hu
 have hs1:=slice_to (P:=Tryz.prog) Tryz.underlying28 hi1 hi3 (some ⟨g,0,none⟩) n c i (by omega)
 have hs2:=slice_from (P:=Tryz.prog) Tryz.underlying28 hi1 hi3 (some ⟨g,0,none⟩) n c (i+1) (by omega) hcn
 rw [Option.map_some,addr0,hA,em,show ((i+1:Nat):Int)=(i:Int)+1 by omega] at hs2
 have hs4:=slice_both (P:=Tryz.prog) Tryz.underlying28 hi1 hi3 (some ⟨g,0,none⟩) p c p n (by omega) hcn
 rw [if_neg (by omega),Option.map_some,addr0,show n - p=1 by omega] at hs4
 have hs0:=slice_three (P:=Tryz.prog) Tryz.underlying28 hi1 hi3 (some ⟨g,0,none⟩) n c i (i+1) n (by omega) (by omega) hcn
 rw [show ((i+1:Nat):Int)=(i:Int)+1 by omega] at hs0
 generalize (Value.slice (if n=i then some ⟨g,0,none⟩ else (some ⟨g,0,none⟩:Option Addr).map (·.add (i*1))) (i+1 - i) (n - i))=sv at hs0
 have hnq:((i:Int) == (i:Int)+1)=false:=by rw [beq_eq_false_iff_ne];omega
 have s1:=Lh hnl
 have s2:Hid (OneC news):=Lh (by rw [hnews];exact hC.out.drop _)
 have s3:Hid (∀t,t<news.length→(w.drew.cell? ⟨g,0+i*1+t,none⟩).isSome=true∧w.drew.frozen? ⟨g,0+i*1+t,none⟩=false):=Lh fun t ht=>by
  rw [hnl] at ht
  rw [hBk.cell]
  exact⟨by have:=hsz;simp;omega,hBk.frozen _⟩
 obtain⟨W1,hW1⟩:∃W1,W1=w.drew.setCells g (0+i*1) news:=⟨_,rfl⟩
 obtain⟨z1,b1,o1,k1,l1,r1⟩:=setCells_blk g 3 news (0+i*1) w.drew cur hBk (by rw [hnl,hsz];omega)
 rw [← hW1] at b1 o1
 obtain⟨zs,hzs⟩:∃zs,zs=(Builtin.zeroCells (Value.int .i64 0).cells 1).toList:=⟨_,rfl⟩
 have hzl:zs.length=1:=by rw [hzs];kernel_rfl
 have hz1:∀u ∈ zs,u.oneCell'=true:=by
  have h:(Builtin.zeroCells (Value.int .i64 0).cells 1).toList.all (·.oneCell')=true:=by kernel_rfl
  rw [← hzs,List.all_eq_true] at h
  exact h
 obtain⟨W2,hW2⟩:∃W2,W2=W1.setCells g (p*1+0) zs:=⟨_,rfl⟩
 obtain⟨z2,b2,o2,k2,l2,r2⟩:=setCells_blk g 3 zs (p*1+0) W1 z1 b1 (by rw [hzl,k1,hsz];omega)
 rw [← hW2] at b2 o2
 have hcl:∀ty,(Builtin.clear_ #[28] ty #[.slice (some ⟨g,p*1,none⟩) 1 (c - p)]).run Tryz.prog W1 = .ok (.tuple #[]) W2:=fun ty=>by
  have h:=run_storeCells_cells (P:=Tryz.prog) g (p*1) zs 0 W1 (fun j hj=>by rw [b1.cell];rw [hzl] at hj;have:=hsz;simp;omega) (fun j hj=>b1.frozen _) hz1
  have hze:(zeroValue 3).run Tryz.prog W1 = .ok (.int .i64 0) W1:=by kernel_rfl
  rw [← hW2] at h
  rw [hzs] at h
  simp only [Builtin.clear_,List.getElem?_toArray,List.getElem?_cons_zero,Sem.run_bind,run_underlying Tryz.underlying28,Result.andThen_ok,hze]
  rw [h]
  rfl
 have hfin:z2.toList.take (p*1)=C.take (i*1) ++ news:=by
  apply List.ext_getElem?
  intro j
  rcases Nat.lt_or_ge j (p*1) with hj | hj
  · rw [List.getElem?_take_of_lt hj,Array.getElem?_toList,l2 j (by omega)]
    rcases Nat.lt_or_ge j (i*1) with hj2 | hj2
    · rw [List.getElem?_append_left (by rw [List.length_take,hlen];omega),List.getElem?_take_of_lt hj2,l1 j (by omega),← hgl j (by omega),Array.getElem?_toList]
    · have ht:(C.take (i*1)).length=i*1:=by rw [List.length_take,hlen];omega
      rw [List.getElem?_append_right (by omega),ht]
      have h:=r1 (j - i*1) (by rw [hnl];omega)
      rw [show 0+i*1+(j - i*1)=j by omega] at h
      exact h
  · rw [List.getElem?_eq_none (by rw [List.length_take];omega),List.getElem?_eq_none (by rw [List.length_append,List.length_take,hnl,hlen];omega)]
 have HFIN:=Lh (show W2.ownsRow base 3 1 (.slice (some ⟨g,0,none⟩) p c) (n - 1) (C.take (i*1) ++ C.drop ((i+1)*1)) from by
  rw [show n - 1=p by omega,← hnews]
  exact⟨by rw [List.length_append,List.length_take,hnl,hlen];omega,.inr ⟨g,c,z2,rfl,hbg,b2,by omega,hcm,by rw [k2,k1,hsz],hfin⟩⟩)
 have HB2:=Lh (show Below base w0 W2 from (bel_drewN hB.out 1).trans ((o1.trans o2).below hbg))
 have hW:=Lh hW1
 have EP:=Lh ep
 have hic:i≤c:=by omega
 have himc:i+m≤c:=by omega
 unfold maxLen at hcm
 clear hW1 hW2 hzs hnews hnl hgl hBk hsz htk hlen hg b1 o1 k1 l1 r1 b2 o2 k2 l2 r2 hfin hz1 hzl hA hi2 hi4 em ep
 try simp only [Nat.mul_one] at hs2
 try simp only [Nat.mul_one] at hs4
 try simp only [Nat.mul_one] at hcl
 go_enter Tryz.func106,Tryz.ntmps106
 go_wp2_with fail
 go_region_law (refine step_append_room rfl (.tmp 22) (.tmp 25) 28 rfl 3 ii 1 Tryz.underlying28 hi1 hi3 g 0 i c (by simp [Act.eval,Act.put]) A m (c - (i+1)) news (by simp [Act.eval,Act.put]) s1.out hsrc.out s2.out himc s3.out ?_;rw [← hW.out,EP.out])
 go_wp2
 go_ret
 exact⟨_,rfl,HFIN,HB2.out⟩
end
section
open Go.RowKit OctMath
theorem llI64:∀m:Int,(i1 m).length=1:=fun _=>rfl
theorem oneI64 (ms:List Int):OneC (ms.flatMap i1):=fun u hu=>by
 obtain⟨m,_,hm⟩:=List.mem_flatMap.1 hu
 have h:(i1 m).all (·.oneCell')=true:=rfl
 exact List.all_eq_true.1 h u hm
theorem putI64 (A:Option Addr) (n cap:Nat) (ms:List Int) (m:Int) (kb:Nat) (k:Int) (w:World) (hr:Hid (Reads w w.heap.size 1 A n (ms.flatMap i1))) (hl:Hid (ms.length=n)) (hn:n≤33554432) (hc:Hid (CapI64 w kb k)) (hm:Hid (∀m ∈ ms,True)) (hk1:True) :
 Calls Tryz.prog 68 #[.slice A n cap,.int .i64 m,.func (.func 101) #[] #[.pointer (some ⟨kb,0,none⟩)]] w (RetRow 3 1 (putB (fL (cmpI64 k) ms) m ms).length ((putB (fL (cmpI64 k) ms) m ms).flatMap i1) w):=by
 obtain⟨p,ep⟩:∃p,bsP (fL (cmpI64 k) ms) n=p:=⟨_,rfl⟩
 have hpn:p≤n:=by rw [← ep];exact bsP_le _ _
 have HFW:=Lh (fun W h1 h2=>findI64 A n cap ms kb k W h1 hl (by omega) h2 hm hk1)
 have HKL:=Lh hc.out.lt
 cases eb:bsB (fL (cmpI64 k) ms) n with
 | true =>
   have hp:p<n:=by rw [← ep];exact bsB_lt eb
   have HCELLS:=Lh (put_cells_old llI64 (x:=m) (f:=(fL (cmpI64 k) ms)) (ms:=ms) (by rw [hl.out];exact eb))
   have HLEN:=Lh (show (putB (fL (cmpI64 k) ms) m ms).length=n from by rw [putB_len,hl.out,eb,if_pos rfl])
   rw [ep,eb] at HFW
   have EP:=Lh ep
   clear ep eb
   go_enter Tryz.func68,Tryz.ntmps68
   go_wp2_with (refine (HFW.out _ hr hc).mono ?_;rintro e w1 ⟨rfl,hb⟩)
   have HB1:=Lh hb
   have HR1:=Lh (hr.out.later hb)
   clear hb
   have hcl:(ms.flatMap i1)[p]?=some (.int .i64 (ms.getD p 0)):=by
    have hpl:p<ms.length:=by have:=hl.out;omega
    have h:=flat_get llI64 ms p hpl 0 (by decide)
    rw [Nat.mul_one,Nat.add_zero] at h
    rw [h,List.getD_eq_getElem?_getD,List.getElem?_eq_getElem hpl]
    rfl
   have HCL:=Lh hcl
   clear hcl
   go_wp2_with (go_at_call 31;refine (cloneI64 A n cap _ _ HR1 (Lh (oneI64 ms)) (by omega)).mono ?_;rintro e w2 ⟨v,rfl,ho,hb⟩;obtain⟨g,c,rfl⟩:=own_form ho (by omega);have HO:=Lh ho;have HB2:=Lh hb;have f3:w2.cell? ⟨g,p,none⟩=some (.int .i64 (ms.getD p 0)):=(HO.out.cellAt p (by omega)).trans HCL.out;have f4:w2.frozen? ⟨g,p,none⟩=false:=HO.out.frozenAt p;clear ho hb)
   go_ret
   have hst:=HO.out.stored p (.int .i64 m)
   refine⟨_,rfl,?_,?_⟩
   · have h:=HCELLS.out
     rw [hl.out,EP.out,Nat.mul_one] at h
     rw [HLEN.out,← h]
     have h2:=ownBas hst.1 HB1.out.size
     have e:setC (ms.flatMap i1) (i1 m) p=(ms.flatMap i1).set p (.int .i64 m):=by
      have hpl:p<(ms.flatMap i1).length:=by rw [HO.out.1];omega
      rw [List.set_eq_take_append_cons_drop,if_pos hpl]
      show _ ++ [iv m] ++ _=_
      rw [List.append_assoc]
      rfl
     rw [e]
     exact h2
   · exact HB1.out.trans ((bel_grown_own HB2.out HB2.out.size HO.out hst.2).mono HB1.out.size)
 | false =>
   have HCELLS:=Lh (put_cells_new llI64 (x:=m) (f:=(fL (cmpI64 k) ms)) (ms:=ms) (by rw [hl.out];exact eb))
   have HLEN:=Lh (show (putB (fL (cmpI64 k) ms) m ms).length=n+1 from by rw [putB_len,hl.out,eb];rfl)
   rw [ep,eb] at HFW
   have EP:=Lh ep
   clear ep eb
   go_enter Tryz.func68,Tryz.ntmps68
   go_wp2_with (refine (HFW.out _ hr hc).mono ?_;rintro e w1 ⟨rfl,hb⟩)
   have HB1:=Lh hb
   have HR1:=Lh (hr.out.later hb)
   clear hb
   go_wp2_with (first
    | (go_at_call 31;refine (cloneI64 A n cap _ _ HR1 (Lh (oneI64 ms)) (by omega)).mono ?_;rintro e w2 ⟨v,rfl,ho,hb⟩;have HO:=Lh ho;have HB2:=Lh hb;have HNE:=Lh (show v.ownBlock≠some w2.heap.size from fun e=>by have:=(HO.out.lt _ e).2;omega);clear ho hb)
    | (go_at_call 100;refine (insI64 w1.heap.size v n (ms.flatMap i1) p w2.heap.size #[.int .i64 m] w1 _ (Lh (HO.out.alloc _)) (Lh (oneI64 ms)) (Lh (HB2.out.alloc HB2.out.size _)) (by have:=HB2.out.size;simp;omega) (Lh (Blk.new w2 _ _)) (Lh rfl) (Lh (List.all_eq_true.1 rfl)) HNE.out hpn (by omega)).mono ?_;rintro e w3 ⟨v',rfl,ho,hb⟩;have HO3:=Lh ho.out;have HB3:=Lh hb;clear ho hb))
   go_ret
   refine⟨_,rfl,?_,HB1.out.trans (HB3.out.mono HB1.out.size)⟩
   have h:=HCELLS.out
   rw [hl.out,EP.out] at h
   rw [HLEN.out,← h]
   exact ownBas HO3.out HB1.out.size
theorem dropI64 (A:Option Addr) (n cap:Nat) (ms:List Int) (kb:Nat) (k:Int) (w:World) (hr:Hid (Reads w w.heap.size 1 A n (ms.flatMap i1))) (hl:Hid (ms.length=n)) (hn:n≤33554432) (hc:Hid (CapI64 w kb k)) (hm:Hid (∀m ∈ ms,True)) (hk1:True) (hcn:n≤cap) (hcm:cap≤maxLen) :
 Calls Tryz.prog 72 #[.slice A n cap,.func (.func 101) #[] #[.pointer (some ⟨kb,0,none⟩)]] w fun e w'=>∃A' c',e = .returned (.slice A' (dropB (fL (cmpI64 k) ms) ms).length c')∧Reads w' w'.heap.size 1 A' (dropB (fL (cmpI64 k) ms) ms).length ((dropB (fL (cmpI64 k) ms) ms).flatMap i1)∧(dropB (fL (cmpI64 k) ms) ms).length≤c'∧c'≤maxLen∧Below w.heap.size w w'∧(0<(dropB (fL (cmpI64 k) ms) ms).length→∀ad,A'=some ad→A'=A∨w.heap.size≤ad.block):=by
 obtain⟨p,ep⟩:∃p,bsP (fL (cmpI64 k) ms) n=p:=⟨_,rfl⟩
 have hpn:p≤n:=by rw [← ep];exact bsP_le _ _
 have HFW:=Lh (fun W h1 h2=>findI64 A n cap ms kb k W h1 hl (by omega) h2 hm hk1)
 cases eb:bsB (fL (cmpI64 k) ms) n with
 | true =>
   have hp:p<n:=by rw [← ep];exact bsB_lt eb
   have HCELLS:=Lh (drop_cells llI64 (f:=(fL (cmpI64 k) ms)) (ms:=ms) (by rw [hl.out];exact eb))
   have HLEN:=Lh (show (dropB (fL (cmpI64 k) ms) ms).length=n - 1 from by rw [dropB_len,hl.out,eb,if_pos rfl])
   rw [ep,eb] at HFW
   have EP:=Lh ep
   clear ep eb
   go_enter Tryz.func72,Tryz.ntmps72
   go_wp2_with (refine (HFW.out _ hr hc).mono ?_;rintro e w1 ⟨rfl,hb⟩)
   have HB1:=Lh hb
   have HR1:=Lh (hr.out.later hb)
   clear hb
   go_wp2_with (first
    | (go_at_call 31;refine (cloneI64 A n cap _ _ HR1 (Lh (oneI64 ms)) (by omega)).mono ?_;rintro e w2 ⟨v,rfl,ho,hb⟩;have HO:=Lh ho;have HB2:=Lh hb;clear ho hb)
    | (go_at_call 106;refine (delI64 w1.heap.size v n (ms.flatMap i1) p w1 _ HO (Lh (oneI64 ms)) HB2 hp (by omega)).mono ?_;rintro e w3 ⟨v',rfl,ho,hb⟩;have HO3:=Lh ho.out;have HB3:=Lh hb;clear ho hb))
   obtain⟨A',c',rfl,h1,h2⟩:=own_slice HO3.out
   go_ret
   refine⟨A',c',by rw [HLEN.out];rfl,?_,by rw [HLEN.out];exact h1,h2,HB1.out.trans (HB3.out.mono HB1.out.size),fun hp0 ad ead => .inr (by
    rw [HLEN.out] at hp0
    have:=(rowIn_own' HO3.out) hp0 ad ead
    have:=HB1.out.size
    omega)⟩
   have h:=HCELLS.out
   rw [hl.out,EP.out] at h
   rw [HLEN.out,← h]
   exact Reads.of_own HO3.out
 | false =>
   have HD:=Lh (show dropB (fL (cmpI64 k) ms) ms=ms from by unfold dropB;rw [hl.out,eb];rfl)
   rw [ep,eb] at HFW
   clear ep eb
   go_enter Tryz.func72,Tryz.ntmps72
   go_wp2_with (refine (HFW.out _ hr hc).mono ?_;rintro e w1 ⟨rfl,hb⟩)
   have HB1:=Lh hb
   have HR1:=Lh (hr.out.later hb)
   clear hb
   go_wp2_with fail
   go_ret
   exact⟨A,cap,by rw [HD.out,hl.out];rfl,by rw [HD.out,hl.out];exact HR1.out,by rw [HD.out,hl.out];exact hcn,hcm,HB1.out,fun _ _ _ => .inl rfl⟩
end
end Go.Proofs.YtdoneomahlfkbaaGreat
