/- SEARCHING A ROW: the closure that compares, the library's search, find (buttress/api.Waste). (printed by gen_m; The library's Clone, Insert, Delete at -/
import Derived.Test.YtdoneomahlfkbaaGreatOnc02
import Derived.Test.YtdoneomahlfkbaaGreatOnc03
set_option linter.unusedVariables false
set_option linter.unusedSimpArgs false
set_option maxRecDepth 100000
set_option maxHeartbeats 4000000
namespace Go.Proofs.YtdoneomahlfkbaaGreat
section
open Go.RowKit OctMath
def orF:List Int→Int
 | []=>0
 | x :: l=>if x=0 then orF l else x
theorem or_any (A:Option Addr) (n cap:Nat) (xs:List Int) (w:World) (hr:Hid (Reads w w.heap.size 1 A n (xs.map iv))) (hn:n≤1000) :
 Calls Tryz.prog 81 #[.slice A n cap] w fun e w'=>e = .returned (.int .i64 (orF xs))∧w=w':=by
 have hl:xs.length=n:=by simpa using hr.out.1
 have HL:=Lh hl
 obtain⟨X,eX⟩:∃X,orF xs=X:=⟨_,rfl⟩
 have EX:=Lh eX
 rw [eX]
 clear hl eX
 go_enter Tryz.func81,Tryz.ntmps81
 go_wp2_with fail
 go_loop [8] (fun vi=>∃k:Nat,k≤n∧vi = .int .i64 k∧Hid (orF (xs.drop k)=X)) (fun vi=>n - (intOf vi).toNat)
 case atStart=>exact⟨0,Nat.zero_le _,rfl,EX⟩
 case round =>
  obtain⟨k,hk,rfl,HX⟩:=hrel
  by_cases hlt:k<n
  · obtain⟨ad,u,rfl,_,hu,hc⟩:=hr.out.at_ hlt
    have hkl:k<xs.length:=by have:=HL.out;omega
    rw [List.getElem?_map,List.getElem?_eq_getElem hkl,Option.map_some] at hu
    have hu2:=Option.some.inj hu
    have hd:xs.drop k=xs[k] :: xs.drop (k+1):=List.drop_eq_getElem_cons hkl
    obtain⟨x,ex⟩:∃x,xs[k]=x:=⟨_,rfl⟩
    rw [ex] at hu2 hd
    subst hu2
    have HX2:Hid ((if x=0 then orF (xs.drop (k+1)) else x)=X):=Lh (by have:=HX.out;rw [hd] at this;exact this)
    have hc':w.cell? (ad.add k)=some (.int .i64 x):=hc
    clear hd hu hc ex
    by_cases h0:x=0
    · subst h0
      have HX3:Hid (orF (xs.drop (k+1))=X):=Lh (by have:=HX2.out;rwa [if_pos rfl] at this)
      go_wp2
      go_round
      case rel=>exact⟨k+1,by omega,by go_num,HX3⟩
      case measure=>simp [intOf];omega
    · have h1:(x != 0)=true:=by simpa using h0
      have HX3:Hid (x=X):=Lh (by have:=HX2.out;rwa [if_neg h0] at this)
      go_wp2
      go_ret
      exact⟨ret_int HX3.out,rfl⟩
  · have HX3:Hid ((0:Int)=X):=Lh (by have:=HX.out;rw [List.drop_of_length_le (by have:=HL.out;omega)] at this;exact this)
    go_wp2
    go_ret
    exact⟨ret_int HX3.out,rfl⟩
theorem orF_waste (a b:WasT):orF [cmpV (decide (a.id.ver<b.id.ver)) (decide (b.id.ver<a.id.ver)),cmpV (decide (a.id.idx<b.id.idx)) (decide (b.id.idx<a.id.idx)),cmpV (decide (a.id.ep<b.id.ep)) (decide (b.id.ep<a.id.ep)),cmpV (decide (a.node<b.node)) (decide (b.node<a.node))]=cmpV (ltW a b) (ltW b a):=by
 have key:∀ (l g:Bool) (r:List Int) (x:Int),(l=true→x = -1)→(l=false→g=true→x=1)→(l=false→g=false→orF r=x)→orF (cmpV l g :: r)=x:=by
  intro l g r x h1 h2 h3
  unfold orF cmpV
  cases l with
  | true=>simp;exact (h1 rfl).symm
  | false =>
    cases g with
    | true=>simp;exact (h2 rfl rfl).symm
    | false=>simp;exact h3 rfl rfl
 have lt_ : ∀x y:WasT,ltW x y=true↔(x.id.ver<y.id.ver∨(x.id.ver=y.id.ver∧(x.id.idx<y.id.idx∨(x.id.idx=y.id.idx∧(x.id.ep<y.id.ep∨(x.id.ep=y.id.ep∧x.node<y.node)))))):=fun x y=>by unfold ltW;simp
 have lf:∀x y:WasT,ltW x y=false↔¬ (x.id.ver<y.id.ver∨(x.id.ver=y.id.ver∧(x.id.idx<y.id.idx∨(x.id.idx=y.id.idx∧(x.id.ep<y.id.ep∨(x.id.ep=y.id.ep∧x.node<y.node)))))):=fun x y=>by rw [← lt_,Bool.not_eq_true]
 have neg:ltW a b=true→cmpV (ltW a b) (ltW b a) = -1:=fun h=>by rw [h];rfl
 have pos:ltW b a=true→cmpV (ltW a b) (ltW b a)=1:=fun h=>by
  have h2:ltW a b=false:=SOrd.asym (o:=wasO) h
  rw [h,h2];rfl
 have zer:ltW a b=false→ltW b a=false→cmpV (ltW a b) (ltW b a)=0:=fun h h2=>by rw [h,h2];rfl
 refine key _ _ _ _ (fun h=>neg ?_) (fun h h2=>pos ?_) (fun h h2=>key _ _ _ _ (fun h3=>neg ?_) (fun h3 h4=>pos ?_) (fun h3 h4=>key _ _ _ _ (fun h5=>neg ?_) (fun h5 h6=>pos ?_) (fun h5 h6=>key _ _ _ _ (fun h7=>neg ?_) (fun h7 h8=>pos ?_) (fun h7 h8=>(zer ?_ ?_).symm))))
 all_goals simp only [decide_eq_true_eq,decide_eq_false_iff_not] at *
 all_goals first | rw [lt_] | rw [lf]
 all_goals omega
structure OrdS (a b:WasT) (h:Nat) (w:World):Prop where
 x:Blk w h 52 #[.int .u64 a.id.ver,.int .i64 a.id.idx,.int .u64 a.id.ep,.int .i64 a.node]
 y:Blk w (h+1) 52 #[.int .u64 b.id.ver,.int .i64 b.id.idx,.int .u64 b.id.ep,.int .i64 b.node]
 sz:h+2≤w.heap.size
theorem OrdS.alloc {a b:WasT} {h:Nat} {w:World} (k:OrdS a b h w) (o:Obj):OrdS a b h (w.alloc o):=⟨k.x.alloc o,k.y.alloc o,by have:=k.sz;simp;omega⟩
abbrev OrdC (a b:WasT) (h:Nat) (w:World):Prop:=(w.cell? ⟨h,0,none⟩=some (.int .u64 a.id.ver)∧w.cell? ⟨h,1,none⟩=some (.int .i64 a.id.idx)∧w.cell? ⟨h,2,none⟩=some (.int .u64 a.id.ep)∧w.cell? ⟨h,3,none⟩=some (.int .i64 a.node))∧w.cell? ⟨h+1,0,none⟩=some (.int .u64 b.id.ver)∧w.cell? ⟨h+1,1,none⟩=some (.int .i64 b.id.idx)∧w.cell? ⟨h+1,2,none⟩=some (.int .u64 b.id.ep)∧w.cell? ⟨h+1,3,none⟩=some (.int .i64 b.node)
theorem OrdS.c {a b:WasT} {h:Nat} {w:World} (k:OrdS a b h w):OrdC a b h w:=⟨⟨k.x.cell 0,k.x.cell 1,k.x.cell 2,k.x.cell 3⟩,k.y.cell 0,k.y.cell 1,k.y.cell 2,k.y.cell 3⟩
theorem order_any (a b:WasT) (w:World):Calls Tryz.prog 44 #[.agg (wasCs a),.agg (wasCs b)] w fun e w'=>e = .returned (.int .i64 (cmpV (ltW a b) (ltW b a)))∧Below w.heap.size w w':=by
 rw [← orF_waste]
 obtain⟨c1,e1⟩:∃c,cmpV (decide (a.id.ver<b.id.ver)) (decide (b.id.ver<a.id.ver))=c:=⟨_,rfl⟩
 obtain⟨c2,e2⟩:∃c,cmpV (decide (a.id.idx<b.id.idx)) (decide (b.id.idx<a.id.idx))=c:=⟨_,rfl⟩
 obtain⟨c3,e3⟩:∃c,cmpV (decide (a.id.ep<b.id.ep)) (decide (b.id.ep<a.id.ep))=c:=⟨_,rfl⟩
 obtain⟨c4,e4⟩:∃c,cmpV (decide (a.node<b.node)) (decide (b.node<a.node))=c:=⟨_,rfl⟩
 have h1:=fun W=>cmpU a.id.ver b.id.ver W
 have h2:=fun W=>cmpI a.id.idx b.id.idx W
 have h3:=fun W=>cmpU a.id.ep b.id.ep W
 have h4:=fun W=>cmpI a.node b.node W
 rw [e1] at h1 ⊢
 rw [e2] at h2 ⊢
 rw [e3] at h3 ⊢
 rw [e4] at h4 ⊢
 have H1:=Lh h1
 have H2:=Lh h2
 have H3:=Lh h3
 have H4:=Lh h4
 clear h1 h2 h3 h4 e1 e2 e3 e4
 have HR:∀ (W:World),Hid (Reads (W.alloc (.cells #[.int .i64 c1,.int .i64 c2,.int .i64 c3,.int .i64 c4] 3)) (W.alloc (.cells #[.int .i64 c1,.int .i64 c2,.int .i64 c3,.int .i64 c4] 3)).heap.size 1 (some ⟨W.heap.size,0,none⟩) 4 ([c1,c2,c3,c4].map iv)):=fun W=>Lh ((Reads.lit W 3 [.int .i64 c1,.int .i64 c2,.int .i64 c3,.int .i64 c4] 1 4 rfl).more (by simp))
 unfold wasCs
 go_enter Tryz.func44,Tryz.ntmps44
 go_wp2_with fail
 obtain⟨w2,ew2⟩:∃w2,(w.alloc (.cells #[.int .u64 a.id.ver,.int .i64 a.id.idx,.int .u64 a.id.ep,.int .i64 a.node] 52)).alloc (.cells #[.int .u64 b.id.ver,.int .i64 b.id.idx,.int .u64 b.id.ep,.int .i64 b.node] 52)=w2:=⟨_,rfl⟩
 have B1:=(Blk.new w 52 #[.int .u64 a.id.ver,.int .i64 a.id.idx,.int .u64 a.id.ep,.int .i64 a.node]).alloc (.cells #[.int .u64 b.id.ver,.int .i64 b.id.idx,.int .u64 b.id.ep,.int .i64 b.node] 52)
 have B2:=Blk.new (w.alloc (.cells #[.int .u64 a.id.ver,.int .i64 a.id.idx,.int .u64 a.id.ep,.int .i64 a.node] 52)) 52 #[.int .u64 b.id.ver,.int .i64 b.id.idx,.int .u64 b.id.ep,.int .i64 b.node]
 have HS:w2.heap.size=w.heap.size+2:=by rw [← ew2];simp
 have HB:=Lh (show Below w.heap.size w w2 from by rw [← ew2];exact ((Below.refl _ _).alloc (Nat.le_refl _) _).alloc (by simp) _)
 have e2:(w.alloc (.cells #[.int .u64 a.id.ver,.int .i64 a.id.idx,.int .u64 a.id.ep,.int .i64 a.node] 52)).heap.size=w.heap.size+1:=by simp
 rw [e2] at B2
 rw [ew2] at B1 B2 ⊢
 clear ew2 e2
 obtain⟨h,eh⟩:∃h,w.heap.size=h:=⟨_,rfl⟩
 have EH:=Lh eh
 rw [eh] at B1 B2 HS HB ⊢
 clear eh
 have KC:=Lh (OrdS.mk B1 B2 (Nat.le_of_eq HS.symm))
 clear B1 B2
 refine wp_region_late (S0:=fun w'=>OrdC a b h w') (S:=fun _=>True) 28 29 (by kernel_rfl) rfl ⟨KC.out.c,trivial⟩ (fun wd hwd hH=>?_)
 have DW:=Lh (show Below h w2 wd from by rw [hwd];exact (Below.refl _ _).drew)
 have KD:=Lh (show OrdS a b h wd from by rw [hwd];exact⟨KC.out.x,KC.out.y,KC.out.sz⟩)
 clear hwd
 refine tS 0 rfl ?_ hH ?_ ?_
 rotate_left
 · (intro wx hx;obtain⟨⟨_,_,_,_⟩,_,_,_,_⟩:=hx;go_simp <;> with_reducible rfl)
 try simp only [Act.put,pA9,pZ9,pS9]
 refine tS 1 rfl ?_ hH ?_ ?_
 rotate_left
 · (intro wx hx;obtain⟨⟨_,_,_,_⟩,_,_,_,_⟩:=hx;go_simp <;> with_reducible rfl)
 try simp only [Act.put,pA9,pZ9,pS9]
 refine tS 2 rfl ?_ hH ?_ ?_
 rotate_left
 · (intro wx hx;obtain⟨⟨_,_,_,_⟩,_,_,_,_⟩:=hx;go_simp <;> with_reducible rfl)
 try simp only [Act.put,pA9,pZ9,pS9]
 refine tS 3 rfl ?_ hH ?_ ?_
 rotate_left
 · (intro wx hx;obtain⟨⟨_,_,_,_⟩,_,_,_,_⟩:=hx;go_simp <;> with_reducible rfl)
 try simp only [Act.put,pA9,pZ9,pS9]
 refine tS 4 rfl ?_ hH ?_ ?_
 rotate_left
 · (intro wx hx;obtain⟨⟨_,_,_,_⟩,_,_,_,_⟩:=hx;go_simp <;> with_reducible rfl)
 try simp only [Act.put,pA9,pZ9,pS9]
 refine tS 5 rfl ?_ hH ?_ ?_
 rotate_left
 · (intro wx hx;obtain⟨⟨_,_,_,_⟩,_,_,_,_⟩:=hx;go_simp <;> with_reducible rfl)
 try simp only [Act.put,pA9,pZ9,pS9]
 refine tS 7 rfl ?_ hH ?_ ?_
 rotate_left
 · (intro wx hx;obtain⟨⟨_,_,_,_⟩,_,_,_,_⟩:=hx;go_simp <;> with_reducible rfl)
 try simp only [Act.put,pA9,pZ9,pS9]
 refine tS 8 rfl ?_ hH ?_ ?_
 rotate_left
 · (intro wx hx;obtain⟨⟨_,_,_,_⟩,_,_,_,_⟩:=hx;go_simp <;> with_reducible rfl)
 try simp only [Act.put,pA9,pZ9,pS9]
 refine tS 9 rfl ?_ hH ?_ ?_
 rotate_left
 · (intro wx hx;obtain⟨⟨_,_,_,_⟩,_,_,_,_⟩:=hx;go_simp <;> with_reducible rfl)
 try simp only [Act.put,pA9,pZ9,pS9]
 refine tS 10 rfl ?_ hH ?_ ?_
 rotate_left
 · (intro wx hx;obtain⟨⟨_,_,_,_⟩,_,_,_,_⟩:=hx;go_simp <;> with_reducible rfl)
 try simp only [Act.put,pA9,pZ9,pS9]
 refine tS 11 rfl ?_ hH ?_ ?_
 rotate_left
 · (intro wx hx;obtain⟨⟨_,_,_,_⟩,_,_,_,_⟩:=hx;go_simp <;> with_reducible rfl)
 try simp only [Act.put,pA9,pZ9,pS9]
 refine tS 12 rfl ?_ hH ?_ ?_
 rotate_left
 · (intro wx hx;obtain⟨⟨_,_,_,_⟩,_,_,_,_⟩:=hx;go_simp <;> with_reducible rfl)
 try simp only [Act.put,pA9,pZ9,pS9]
 refine tS 14 rfl ?_ hH ?_ ?_
 rotate_left
 · (intro wx hx;obtain⟨⟨_,_,_,_⟩,_,_,_,_⟩:=hx;go_simp <;> with_reducible rfl)
 try simp only [Act.put,pA9,pZ9,pS9]
 refine tS 15 rfl ?_ hH ?_ ?_
 rotate_left
 · (intro wx hx;obtain⟨⟨_,_,_,_⟩,_,_,_,_⟩:=hx;go_simp <;> with_reducible rfl)
 try simp only [Act.put,pA9,pZ9,pS9]
 refine tS 16 rfl ?_ hH ?_ ?_
 rotate_left
 · (intro wx hx;obtain⟨⟨_,_,_,_⟩,_,_,_,_⟩:=hx;go_simp <;> with_reducible rfl)
 try simp only [Act.put,pA9,pZ9,pS9]
 refine tS 17 rfl ?_ hH ?_ ?_
 rotate_left
 · (intro wx hx;obtain⟨⟨_,_,_,_⟩,_,_,_,_⟩:=hx;go_simp <;> with_reducible rfl)
 try simp only [Act.put,pA9,pZ9,pS9]
 refine tS 18 rfl ?_ hH ?_ ?_
 rotate_left
 · (intro wx hx;obtain⟨⟨_,_,_,_⟩,_,_,_,_⟩:=hx;go_simp <;> with_reducible rfl)
 try simp only [Act.put,pA9,pZ9,pS9]
 refine tS 19 rfl ?_ hH ?_ ?_
 rotate_left
 · (intro wx hx;obtain⟨⟨_,_,_,_⟩,_,_,_,_⟩:=hx;go_simp <;> with_reducible rfl)
 try simp only [Act.put,pA9,pZ9,pS9]
 refine tS 21 rfl ?_ hH ?_ ?_
 rotate_left
 · (intro wx hx;obtain⟨⟨_,_,_,_⟩,_,_,_,_⟩:=hx;go_simp <;> with_reducible rfl)
 try simp only [Act.put,pA9,pZ9,pS9]
 refine tS 22 rfl ?_ hH ?_ ?_
 rotate_left
 · (intro wx hx;obtain⟨⟨_,_,_,_⟩,_,_,_,_⟩:=hx;go_simp <;> with_reducible rfl)
 try simp only [Act.put,pA9,pZ9,pS9]
 refine tS 23 rfl ?_ hH ?_ ?_
 rotate_left
 · (intro wx hx;obtain⟨⟨_,_,_,_⟩,_,_,_,_⟩:=hx;go_simp <;> with_reducible rfl)
 try simp only [Act.put,pA9,pZ9,pS9]
 refine tS 24 rfl ?_ hH ?_ ?_
 rotate_left
 · (intro wx hx;obtain⟨⟨_,_,_,_⟩,_,_,_,_⟩:=hx;go_simp <;> with_reducible rfl)
 try simp only [Act.put,pA9,pZ9,pS9]
 refine wpAnyT_one 6 rfl (by kernel_rfl) (fun K hK=>?_)
 go_simp
 (go_at_call 40;refine (H1.out _).mono ?_;rintro e w' ⟨rfl,rfl⟩)
 refine hK.out _ _ ?_ (fun hH6=>?_)
 · exact⟨KD.out.c,trivial⟩
 clear hK K
 try simp only [Act.put,pA9,pZ9,pS9]
 refine wpAnyT_one 13 rfl (by kernel_rfl) (fun K hK=>?_)
 go_simp
 (go_at_call 46;refine (H2.out _).mono ?_;rintro e w' ⟨rfl,rfl⟩)
 refine hK.out _ _ ?_ (fun hH13=>?_)
 · exact⟨KD.out.c,trivial⟩
 clear hK K
 try simp only [Act.put,pA9,pZ9,pS9]
 refine wpAnyT_one 20 rfl (by kernel_rfl) (fun K hK=>?_)
 go_simp
 (go_at_call 40;refine (H3.out _).mono ?_;rintro e w' ⟨rfl,rfl⟩)
 refine hK.out _ _ ?_ (fun hH20=>?_)
 · exact⟨KD.out.c,trivial⟩
 clear hK K
 try simp only [Act.put,pA9,pZ9,pS9]
 refine wpAnyT_one 25 rfl (by kernel_rfl) (fun K hK=>?_)
 go_simp
 (go_at_call 46;refine (H4.out _).mono ?_;rintro e w' ⟨rfl,rfl⟩)
 refine hK.out _ _ ?_ (fun hH25=>?_)
 · exact⟨KD.out.c,trivial⟩
 clear hK K
 try simp only [Act.put,pA9,pZ9,pS9]
 refine wpAnyT_one 26 rfl (by kernel_rfl) (fun K hK=>?_)
 go_simp
 refine hK.out _ _ ?_ (fun hH26=>?_)
 · exact⟨(KD.out.alloc _).c,trivial⟩
 clear hK K
 try simp only [Act.put,pA9,pZ9,pS9]
 refine wpAnyT_one 27 rfl (by kernel_rfl) (fun K hK=>?_)
 go_simp
 (go_at_call 81;refine (or_any _ 4 4 [c1,c2,c3,c4] _ (HR _) (by omega)).mono ?_;rintro e w' ⟨rfl,rfl⟩)
 refine hK.out _ _ ?_ (fun hH27=>?_)
 · exact⟨(KD.out.alloc _).c,trivial⟩
 clear hK K
 try simp only [Act.put,pA9,pZ9,pS9]
 refine wpAnyT_last 28 rfl (by kernel_rfl) (by decide) (fun K hK=>?_)
 go_simp
 refine hK.out _ _ ?_ (fun hH28=>?_)
 · exact (KD.out.alloc _).c
 clear hK K
 try simp only [Act.put,pA9,pZ9,pS9]
 refine wpAnyT_done (by kernel_rfl) ?_ _
 clear hH
 go_wp2
 go_ret
 rw [EH.out]
 exact⟨rfl,(HB.out.trans (DW.out.mono (by omega))).alloc (by have:=KD.out.sz;omega) _⟩
def CapWas (w:World) (kb:Nat) (k:WasT):Prop:=Blk w kb 52 (wasCs k)
def cmpWas (k:WasT) (m:WasT):Int:=cmpV (ltW (m) k) (ltW k (m))
theorem howWas (m:WasT) (kb:Nat) (k:WasT) (w:World) (hc:Hid (CapWas w kb k)) (hm:True) (hk1:True) :
 Calls Tryz.prog 105 #[.agg (wasCs m),.pointer (some ⟨kb,0,none⟩)] w fun e w'=>e = .returned (.int .i64 (cmpWas k m))∧Below w.heap.size w w':=by
 have HC:Hid (Blk w kb 52 (wasCs k)):=Lh hc.out
 go_enter Tryz.func105,Tryz.ntmps105
 go_wp2_with (first
  | (refine wpl_load_blk rfl 52 (.tmp 2) rfl w.heap.size 52 (wasCs m) _ rfl (Blk.new w _ _) Tryz.underlying52 rfl rfl ?_)
  | (refine wpl_load_blk rfl 52 (.tmp 1) rfl kb 52 (wasCs k) _ rfl (HC.out.alloc _) Tryz.underlying52 rfl rfl ?_)
  | (go_at_call 44;refine (order_any m k _).mono ?_;rintro e w' ⟨rfl,hb⟩))
 have HB:=Lh hb
 clear hb
 go_ret
 exact⟨rfl,((Below.refl _ _).alloc (Nat.le_refl _) _).trans (HB.out.mono (by simp))⟩
def HbWas (w:World) (hb kb:Nat):Prop:=Blk w hb 126 #[.func (.func 105) #[] #[.pointer (some ⟨kb,0,none⟩)]]
theorem fnWas (m:WasT) (hb kb:Nat) (k:WasT) (w:World) (hc:Hid (CapWas w kb k)) (hh:Hid (HbWas w hb kb)) (hm:True) (hk1:True) :
 Calls Tryz.prog 136 #[.agg (wasCs m),.int .i64 0,.pointer (some ⟨hb,0,none⟩)] w fun e w'=>e = .returned (.int .i64 (cmpWas k m))∧Below w.heap.size w w':=by
 have ck:=hh.out.cell 0
 have hlt:=hh.out.lt
 simp only [List.getElem?_toArray,List.getElem?_cons_zero] at ck
 have HS:Hid ((wasCs m).size=4):=Lh rfl
 obtain⟨cs,ecs⟩:∃cs,wasCs m=cs:=⟨_,rfl⟩
 have HW:=Lh (fun W h=>howWas m kb k W h hm hk1)
 have ECS:=Lh ecs
 rw [ecs] at HS HW ⊢
 clear ecs
 have HC:Hid (CapWas _ kb k):=Lh (Blk.alloc (show Blk w kb 52 (wasCs k) from hc.out) (.cells cs 52))
 go_enter Tryz.func136,Tryz.ntmps136
 go_wp2_with (first
  | (refine wpl_load_blk rfl 52 (.tmp 3) rfl w.heap.size 52 cs _ rfl (Blk.new w _ _) Tryz.underlying52 rfl (by rw [HS.out];rfl) ?_)
  | (go_at_call 105;refine (HW.out _ HC).mono ?_;rintro e w' ⟨rfl,hb'⟩))
 have HB:=Lh hb'
 clear hb'
 go_ret
 exact⟨rfl,((Below.refl _ _).alloc (Nat.le_refl _) _).trans (HB.out.mono (by simp))⟩
theorem bsWas (A:Option Addr) (n cap:Nat) (ms:List WasT) (hb kb:Nat) (k:WasT) (w:World) (hr:Hid (Reads w w.heap.size 4 A n (ms.flatMap wasL))) (hl:Hid (ms.length=n)) (hn:n≤67108864) (hc:Hid (CapWas w kb k)) (hh:Hid (HbWas w hb kb)) (hm:Hid (∀m ∈ ms,True)) (hk1:True) :
 Calls Tryz.prog 135 #[.slice A n cap,.int .i64 0,.func (.func 136) #[] #[.pointer (some ⟨hb,0,none⟩)]] w fun e w'=>e = .returned (.tuple #[.int .i64 (bsP (fL (cmpWas k) ms) n:Nat),.bool (bsB (fL (cmpWas k) ms) n)])∧Below w.heap.size w w':=by
 have hll:∀m,(wasL m).length=4:=fun _=>rfl
 have HLL:=Lh hll
 clear hll
 have HCL:=Lh hc.out.lt
 have HHL:=Lh hh.out.lt
 obtain⟨f,ef⟩:∃f,fL (cmpWas k) ms=f:=⟨_,rfl⟩
 have EF:=Lh ef
 rw [ef]
 clear ef
 go_enter Tryz.func135,Tryz.ntmps135
 go_wp2_with fail
 go_loopw [9,10] (fun vi vj wr=>∃lo hi:Nat,lo≤n∧hi≤n∧vi = .int .i64 lo∧vj = .int .i64 hi∧Hid (BsI f n lo hi)∧Hid (Below w.heap.size w wr)) (fun vi vj _=>(intOf vj - intOf vi).toNat)
 case atStart=>exact⟨0,n,by omega,by omega,rfl,rfl,Lh (BsI.start f n),Lh (Below.refl _ _)⟩
 case round =>
  obtain⟨lo,hi,hlo,hhi,rfl,rfl,HI,HB⟩:=hrel
  by_cases hlt:lo<hi
  · have hcv:IntKind.u64.wrap ((lo:Int)+(hi:Int))=(lo:Int)+(hi:Int):=by rw [IntKind.wrap_u64];omega
    obtain⟨h,eh⟩:∃h,(lo+hi) / 2=h:=⟨_,rfl⟩
    have EH:=Lh eh
    have hhn:h<n:=by omega
    have hd:((lo:Int)+(hi:Int)) / 2=(h:Int):=by omega
    clear eh
    have hmsl:h<ms.length:=by have:=hl.out;omega
    obtain⟨ad,rfl,hadb,hcell⟩:=elem_cells HLL.out hr.out hmsl (by omega)
    have hfh:f h=cmpWas k ms[h]:=by rw [← EF.out];exact fL_at _ hmsl
    have hwm:=hm.out ms[h] (List.getElem_mem hmsl)
    obtain⟨m,em⟩:∃m,ms[h]=m:=⟨_,rfl⟩
    rw [em] at hcell hfh
    try rw [em] at hwm
    clear em
    have HAD:=Lh hadb
    have HC1:=Lh (fun j v hv=>(HB.out.cell (p:=(ad.add (h*4)).add j) (by rw [block_of_add,block_of_add];exact hadb)).trans (hcell j v hv))
    have HF:=Lh hfh
    have HWM:=Lh hwm
    have HN:=Lh (fun W a b=>fnWas m hb kb k W a b hwm hk1)
    have HCC:=Lh (Blk.below hc.out HB.out HCL.out)
    have HHH:=Lh (Blk.below hh.out HB.out HHL.out)
    clear hcell hfh hwm hadb hmsl
    by_cases hz:f h<0
    · have hz2:decide (cmpWas k m<0)=true:=by rw [← HF.out];exact decide_eq_true hz
      have HI2:=Lh (HI.out.up hlt (by rw [EH.out];exact hz))
      rw [EH.out] at HI2
      clear hz
      go_wp2_with (first
       | (refine wpl_load_at rfl 52 (.tmp 27) rfl (ad.add (h*4)) (wasL m) _ rfl HC1.out Tryz.underlying52 rfl rfl ?_)
       | (go_at_call 136;refine (HN.out _ HCC HHH).mono ?_;rintro e w' ⟨rfl,hb'⟩))
      have HB2:=Lh (HB.out.trans (hb'.mono HB.out.size))
      clear hb'
      go_wp2_with fail
      exact⟨⟨h+1,hi,by omega,hhi,by go_num,rfl,HI2,HB2⟩,by simp [intOf];omega⟩
    · have hz2:decide (cmpWas k m<0)=false:=by rw [← HF.out];exact decide_eq_false hz
      have HI2:=Lh (HI.out.down hlt (by rw [EH.out];exact hz))
      rw [EH.out] at HI2
      clear hz
      go_wp2_with (first
       | (refine wpl_load_at rfl 52 (.tmp 27) rfl (ad.add (h*4)) (wasL m) _ rfl HC1.out Tryz.underlying52 rfl rfl ?_)
       | (go_at_call 136;refine (HN.out _ HCC HHH).mono ?_;rintro e w' ⟨rfl,hb'⟩))
      have HB2:=Lh (HB.out.trans (hb'.mono HB.out.size))
      clear hb'
      go_wp2_with fail
      exact⟨⟨lo,h,hlo,by omega,rfl,by go_num,HI2,HB2⟩,by simp [intOf];omega⟩
  · have hp:bsP f n=lo:=HI.out.done hlt
    by_cases hln:lo<n
    · have hmsl:lo<ms.length:=by have:=hl.out;omega
      obtain⟨ad,rfl,hadb,hcell⟩:=elem_cells HLL.out hr.out hmsl (by omega)
      have hfh:f lo=cmpWas k ms[lo]:=by rw [← EF.out];exact fL_at _ hmsl
      have hwm:=hm.out ms[lo] (List.getElem_mem hmsl)
      obtain⟨m,em⟩:∃m,ms[lo]=m:=⟨_,rfl⟩
      rw [em] at hcell hfh
      try rw [em] at hwm
      clear em
      have HC1:=Lh (fun j v hv=>(HB.out.cell (p:=(ad.add (lo*4)).add j) (by rw [block_of_add,block_of_add];exact hadb)).trans (hcell j v hv))
      have HN:=Lh (fun W a b=>fnWas m hb kb k W a b hwm hk1)
      have HCC:=Lh (Blk.below hc.out HB.out HCL.out)
      have HHH:=Lh (Blk.below hh.out HB.out HHL.out)
      have hbf:bsB f n=(cmpWas k m == 0):=by unfold bsB;rw [hp,decide_eq_true hln,hfh];rfl
      have HP:=Lh (And.intro hp hbf)
      have d1:decide (lo<n)=true:=decide_eq_true hln
      obtain⟨z,ez⟩:∃z,cmpWas k m=z:=⟨_,rfl⟩
      rw [ez] at HP HN
      clear hcell hfh hwm hadb hmsl hp hbf ez
      cases e0:z == 0
      all_goals
       rw [e0] at HP
       go_wp2_with (first
        | (refine wplW (by rfl) (wp_load_at 52 (.tmp 43) rfl (ad.add (lo*4)) (wasL m) _ rfl HC1.out Tryz.underlying52 rfl rfl ?_))
        | (go_at_call 136;refine (HN.out _ HCC HHH).mono ?_;rintro e w' ⟨rfl,hb'⟩))
       have HB2:=Lh (HB.out.trans (hb'.mono HB.out.size))
       clear hb'
       go_wp2_with fail
       go_ret2
       exact⟨by rw [HP.out.1,HP.out.2];rfl,HB2.out⟩
    · have hbf:bsB f n=false:=by unfold bsB;rw [hp,decide_eq_false hln];rfl
      have HP:=Lh (And.intro hp hbf)
      clear hp hbf
      go_wp2_with fail
      go_ret2
      exact⟨by rw [HP.out.1,HP.out.2];rfl,HB.out⟩
theorem mkWas (k:WasT) (w:World):Calls Tryz.prog 71 #[.agg (wasCs k)] w fun e w'=>e = .returned (.func (.func 105) #[] #[.pointer (some ⟨w.heap.size,0,none⟩)])∧CapWas w' w.heap.size k∧Below w.heap.size w w':=by
 go_enter Tryz.func71,Tryz.ntmps71
 go_wp2
 go_ret
 exact⟨rfl,Blk.new w _ _,(Below.refl _ _).alloc (Nat.le_refl _) _⟩
theorem findWas (A:Option Addr) (n cap:Nat) (ms:List WasT) (kb:Nat) (k:WasT) (w:World) (hr:Hid (Reads w w.heap.size 4 A n (ms.flatMap wasL))) (hl:Hid (ms.length=n)) (hn:n≤67108864) (hc:Hid (CapWas w kb k)) (hm:Hid (∀m ∈ ms,True)) (hk1:True) :
 Calls Tryz.prog 102 #[.slice A n cap,.func (.func 105) #[] #[.pointer (some ⟨kb,0,none⟩)]] w fun e w'=>e = .returned (.tuple #[.int .i64 (bsP (fL (cmpWas k) ms) n:Nat),.bool (bsB (fL (cmpWas k) ms) n)])∧Below w.heap.size w w':=by
 have HR:=Lh ((hr.out.alloc (Nat.le_refl _) (.cells #[.func (.func 105) #[] #[.pointer (some ⟨kb,0,none⟩)]] 126)).more (B':=(w.alloc (.cells #[.func (.func 105) #[] #[.pointer (some ⟨kb,0,none⟩)]] 126)).heap.size) (by simp))
 have HC:Hid (CapWas _ kb k):=Lh (Blk.alloc (show Blk w kb 52 (wasCs k) from hc.out) (.cells #[.func (.func 105) #[] #[.pointer (some ⟨kb,0,none⟩)]] 126))
 have HH:=Lh (Blk.new w 126 #[.func (.func 105) #[] #[.pointer (some ⟨kb,0,none⟩)]])
 have HB:=Lh (bsWas A n cap ms w.heap.size kb k _ HR hl hn HC HH hm hk1)
 go_enter Tryz.func102,Tryz.ntmps102
 go_wp2_with (refine HB.out.mono ?_;rintro e w' ⟨rfl,hb'⟩)
 have HB2:=Lh hb'
 clear hb'
 go_ret2
 exact⟨rfl,((Below.refl _ _).alloc (Nat.le_refl _) _).trans (HB2.out.mono (by simp))⟩
end
section
open Go.RowKit
theorem Tryz.zWas:(Tryz.prog.info? 52).map (fun i=>(i.zero,i.size,i.bytes))=some (some (.agg #[.int .u64 0,.int .i64 0,.int .u64 0,.int .i64 0]),4,32):=by kernel_rfl
theorem cloneWas (A:Option Addr) (n cap:Nat) (C:List Value) (w:World) (hr:Hid (Reads w w.heap.size 4 A n C)) (h1:Hid (OneC C)) (hn:n≤67108864) :
 Calls Tryz.prog 104 #[.slice A n cap] w (RetRow 52 4 n C w):=by
 have k0:=fun W:World=>Lib.run_eql_slice_nil (P:=Tryz.prog) W 32 52 A n cap 0 0 Tryz.underlying32
 cases A with
 | none =>
   have h0:n=0:=by
    rcases Nat.eq_zero_or_pos n with h | h
    · exact h
    · obtain⟨_,h1,_⟩:=hr.out.2 h;cases h1
   subst h0
   obtain rfl:C=[]:=List.eq_nil_of_length_eq_zero (by have:=hr.out.1;omega)
   go_enter Tryz.func104,Tryz.ntmps104
   go_wp2
   go_ret
   exact⟨_,rfl,⟨rfl,.inl ⟨rfl,rfl⟩⟩,Below.refl _ _⟩
 | some ad =>
   simp only [Option.isNone_some] at k0
   go_enter Tryz.func104,Tryz.ntmps104
   go_wp2_with (at_builtin
                refine wpl_append rfl (.tmp 5) (.tmp 6) _ rfl w w.heap.size 52 _ 4 32 Tryz.underlying32 Tryz.zWas rfl (by decide) (.slice (some ⟨w.heap.size,0,none⟩) 0 0) 0 [] rfl ?own (w.heap.size+1) (some ad) n cap C rfl ?rd h1.out (by omega) (by decide) ?bel ?base ?_
                case own=>exact World.ownsRow_lit _ #[] 0 (Nat.le_refl _) (by unfold maxLen;omega) rfl
                case rd=>exact (hr.out.alloc (Nat.le_refl _) _).more (by simp)
                case bel=>exact (Below.refl _ _).alloc (Nat.le_refl _) _
                case base=>simp
                intro v1 w1 hh)
   go_ret
   refine⟨v1,rfl,?_,hh.out.2.1⟩
   have h:=hh.out.1
   simpa using h
def InsWas (base:Nat) (v:Value) (n:Nat) (C:List Value) (i vb:Nat) (ys:Array Value) (w0 w:World):Prop :=
 Calls Tryz.prog 130 #[v,.int .i64 (i:Int),.slice (some ⟨vb,0,none⟩) 1 1] w fun e w' =>
  ∃v',e = .returned v'∧Hid (w'.ownsRow base 52 4 v' (n+1) (insC C ys.toList (i*4)))∧Below base w0 w'
section
variable (base:Nat) (v:Value) (n:Nat) (C:List Value) (i vb:Nat) (ys:Array Value) (w0 w:World)
theorem insWas_end (hown:Hid (w.ownsRow base 52 4 v n C)) (hB:Hid (Below base w0 w)) (hbase:base≤w.heap.size) (hv:Hid (Blk w vb 52 ys)) (hy:Hid (ys.size=4)) (h1:Hid (OneC ys.toList)) (hi:i=n) (hn:n≤67108864) :
 InsWas base v n C i vb ys w0 w:=by
 unfold InsWas
 subst hi
 obtain⟨ii,hi1,hi2,hi3,hi4⟩:=info_parts Tryz.zWas
 obtain⟨A,cap,rfl,h1',h2⟩:=own_slice hown.out
 have hsl:=slice_from (P:=Tryz.prog) Tryz.underlying32 hi1 hi3 A i cap i (Nat.le_refl _) h1'
 generalize (Value.slice (if cap=i then A else A.map (·.add (i*4))) (i - i) (cap - i))=sv at hsl
 have HRD:=Lh (show Reads w w.heap.size 4 (some ⟨vb,0,none⟩) 1 ys.toList from ⟨by have:=hy.out;simp [this],fun _=>⟨_,rfl,hv.out.lt,fun j u hu=>by
  rw [addr0,hv.out.cell]
  simpa using hu⟩⟩)
 unfold maxLen at h2
 clear hi1 hi2 hi3 hi4
 go_enter Tryz.func130,Tryz.ntmps130
 go_wp2_with (at_builtin
              refine wpl_append rfl (.tmp 23) (.tmp 24) _ rfl w0 base 52 _ 4 32 Tryz.underlying32 Tryz.zWas rfl (by decide) (.slice A i cap) i C rfl hown.out w.heap.size (some ⟨vb,0,none⟩) 1 1 ys.toList rfl HRD.out h1.out (by omega) (by decide) hB.out hbase ?_
              intro v1 w1 hh)
 go_ret
 refine⟨v1,rfl,Lh ?_,hh.out.2.1⟩
 have h:=hh.out.1
 have hlen:C.length=i*4:=hown.out.1
 unfold insC
 rw [← hlen,List.take_length,List.drop_length,List.append_nil]
 exact h
theorem insWas_room (g c:Nat) (hown:Hid (w.ownsRow base 52 4 (.slice (some ⟨g,0,none⟩) n c) n C)) (hC:Hid (OneC C)) (hB:Hid (Below base w0 w)) (hv:Hid (Blk w vb 52 ys)) (hys:Hid (ys.size=4)) (hy1:Hid (OneC ys.toList)) (hne:g≠vb) (hi:i<n) (hn:n≤67108864) (hr:n+1≤c) :
 InsWas base (.slice (some ⟨g,0,none⟩) n c) n C i vb ys w0 w:=by
 unfold InsWas
 obtain⟨ii,hi1,hi2,hi3,hi4⟩:=info_parts Tryz.zWas
 obtain⟨cur,hbg,hg,hcm,hsz,htk⟩:∃cur:Array Value,base≤g∧w.heap[g]?=some (.cells cur 52 (0,0))∧c≤maxLen∧cur.size=c*4∧cur.toList.take (n*4)=C:=by
  rcases hown.out.2 with ⟨h,_⟩ | ⟨g',cap',cur,ev,q1,q2,q3,q4,q5,q6⟩
  · cases h
  · injection ev with e1 e2 e3
    injection e1 with e1
    injection e1 with e1
    subst e1
    subst e3
    exact⟨cur,q1,q2,q4,q5,q6⟩
 have hlen:C.length=n*4:=hown.out.1
 have hyl:ys.toList.length=4:=by have:=hys.out;simpa using this
 have hcl:(C.drop (i*4)).length=(n - i)*4:=by rw [List.length_drop,hlen];omega
 have hgl:∀j,j<n*4→cur.toList[j]?=C[j]?:=fun j hj=>by rw [← htk,List.getElem?_take_of_lt hj]
 have hsl:=slice_from (P:=Tryz.prog) Tryz.underlying32 hi1 hi3 (some ⟨g,0,none⟩) n c i (by omega) (by omega)
 generalize (Value.slice (if c=i then some ⟨g,0,none⟩ else (some ⟨g,0,none⟩:Option Addr).map (·.add (i*4))) (n - i) (c - i))=sv at hsl
 have hs1:=slice_to (P:=Tryz.prog) Tryz.underlying32 hi1 hi3 (some ⟨g,0,none⟩) n c (n+1) hr
 have hs2:=slice_from (P:=Tryz.prog) Tryz.underlying32 hi1 hi3 (some ⟨g,0,none⟩) (n+1) c (i+1) (by omega) (by omega)
 have hs3:=slice_from (P:=Tryz.prog) Tryz.underlying32 hi1 hi3 (some ⟨g,0,none⟩) (n+1) c i (by omega) (by omega)
 rw [if_neg (by omega),Option.map_some,addr0,show n+1 - (i+1)=n - i by omega] at hs2
 rw [if_neg (by omega),Option.map_some,addr0] at hs3
 have e1:((n+1:Nat):Int)=(n:Int)+1:=by omega
 have e2:((i+1:Nat):Int)=(i:Int)+1:=by omega
 rw [e1] at hs1
 rw [e2] at hs2
 have hw1:IntKind.i64.wrap ((i:Int)+1)=(i:Int)+1:=by rw [IntKind.wrap_i64];omega
 have hnq:((i:Int) == (n:Int))=false:=by rw [beq_eq_false_iff_ne];omega
 have hgt:decide ((n:Int)+1>(c:Int))=false:=decide_eq_false (by omega)
 have hgt2:decide ((c:Int)<(n:Int)+1)=false:=decide_eq_false (by omega)
 have hz:∀W:World,(sizeOf 52).run Tryz.prog W = .ok 4 W:=fun W=>by simp [sizeOf,typeInfo,hi1,hi3]
 have hov:∀lb cb (W:World),W.heap=w.heap→(callFunc 149 #[.slice (some ⟨vb,0,none⟩) 1 1,.slice (some ⟨g,(i+1)*4,none⟩) lb cb]).run Tryz.prog W = .ok (.value (.bool false)) W:=fun lb cb W hW=>by
  have hvW:W.heap[vb]?=some (.cells ys 52 (0,0)):=by rw [hW];exact hv.out
  have hgW:W.heap[g]?=some (.cells cur 52 (0,0)):=by rw [hW];exact hg
  rw [run_callFunc_extern Tryz.func149 (by kernel_rfl) (by kernel_rfl) (by kernel_rfl) (e:=Extern.SlicesOverlaps.overlaps #[32,32] #[4]) (by kernel_rfl),
   Lib.run_overlaps_apart W 32 4 52 Tryz.underlying32 4 hz ⟨vb,0,none⟩ ⟨g,(i+1)*4,none⟩ 1 1 lb cb (fun h=>hne h.symm) 52 52 4 cur.size (by simp [World.shape?,hvW,hys.out]) (by simp [World.shape?,hgW]) (by omega) (by simp [World.frozen?,hvW]) (by simp [World.frozen?,hvW])]
  rfl
 have hszi:(Tryz.prog.info? 52).map (·.size)=some 4:=by rw [hi1];simp [hi3]
 have hcl5:cur.toList.length=c*4:=by simpa using hsz
 obtain⟨cur1,hc1⟩:∃cur1:Array Value,cur1=(cur.toList.take ((i+1)*4) ++ C.drop (i*4) ++ cur.toList.drop ((i+1)*4+(n - i)*4)).toArray:=⟨_,rfl⟩
 have hs1z:cur1.size=c*4:=by rw [hc1];simp only [List.size_toArray,List.length_append,List.length_take,List.length_drop,hlen,hcl5];omega
 obtain⟨cur2,hc2⟩:∃cur2:Array Value,cur2=(cur1.toList.take (i*4) ++ ys.toList ++ cur1.toList.drop (i*4+4)).toArray:=⟨_,rfl⟩
 have hcp1:∀ (W:World),W.heap=w.heap→∀ty dc sc,(Builtin.copy_ #[32,32] ty #[.slice (some ⟨g,(i+1)*4,none⟩) (n - i) dc,.slice (some ⟨g,i*4,none⟩) (n+1 - i) sc]).run Tryz.prog W = .ok (goInt (n - i:Nat)) (W.setRow g cur1):=fun W hW ty dc sc=>by
  have h:=run_copy_rowK (P:=Tryz.prog) W 32 32 ty 52 g ((i+1)*4) (n - i) dc ⟨g,i*4,none⟩ (n+1 - i) sc cur 52 (C.drop (i*4)) 4 (n - i) Tryz.underlying32 hszi (by rw [hW];exact hg) (by simp only [Nat.min_def];split <;> omega) hcl (fun j v hj=>by
   have hjl:j<(n - i)*4:=by have:=(List.getElem?_eq_some_iff.1 hj).1;omega
   rw [addrK,cell_of_row W g (i*4+j) cur 52 (0,0) (by rw [hW];exact hg)]
   rw [List.getElem?_drop,← hgl _ (by omega)] at hj
   simpa using hj) (by rw [hcl];omega) (hC.out.drop _)
  rw [hcl,← hc1] at h
  exact h
 have hcp2:∀ (W:World),W.heap[g]?=some (.cells cur1 52 (0,0))→W.heap[vb]?=some (.cells ys 52 (0,0))→∀ty dc,(Builtin.copy_ #[32,32] ty #[.slice (some ⟨g,i*4,none⟩) (n+1 - i) dc,.slice (some ⟨vb,0,none⟩) 1 1]).run Tryz.prog W = .ok (goInt (1:Nat)) (W.setRow g cur2):=fun W hW hW2 ty dc=>by
  have h:=run_copy_rowK (P:=Tryz.prog) W 32 32 ty 52 g (i*4) (n+1 - i) dc ⟨vb,0,none⟩ 1 1 cur1 52 ys.toList 4 1 Tryz.underlying32 hszi hW (by simp only [Nat.min_def];split <;> omega) (by rw [hyl]) (fun j v hj=>by
   rw [addr0,cell_of_row W vb j _ 52 (0,0) hW2]
   simpa using hj) (by rw [hs1z,hyl];omega) hy1.out
  rw [hyl,← hc2] at h
  exact h
 have hfin:cur2.toList.take ((n+1)*4)=insC C ys.toList (i*4):=by
  have h:=insK_list cur.toList (C.drop (i*4)) ys.toList 4 (i*4) ((n - i)*4) hcl hyl (by rw [hcl5];omega)
  rw [hc2,hc1]
  rw [show (i+1)*4=i*4+4 by omega,show (n+1)*4=i*4+4+(n - i)*4 by omega]
  rw [h]
  have h2:cur.toList.take (i*4)=C.take (i*4):=by
   rw [← htk,List.take_take,Nat.min_eq_left (by omega)]
  rw [h2]
  rfl
 have hs2z:cur2.size=c*4:=by rw [hc2];simp only [List.size_toArray,List.length_append,List.length_take,List.length_drop,Array.length_toList,hs1z,hyl,hys.out];omega
 have hinl:(insC C ys.toList (i*4)).length=(n+1)*4:=by rw [insC_len (by omega),hyl,hlen];omega
 have HFIN:=Lh (And.intro hfin (And.intro hs2z hinl))
 have HG:=Lh hg
 have HBG:=Lh hbg
 have HCM:=Lh hcm
 have HV:=hv
 have hge:g<w.heap.size:=(Blk.lt (cs:=cur) (t:=52) hg)
 clear hc1 hc2 hfin hs2z hs1z hg hszi hcl5 hcl hgl htk hsz hlen hbg hcm hyl hinl
 unfold maxLen at HCM
 obtain⟨w5,hw5⟩:∃w5,w.drew.setRow g cur1=w5:=⟨_,rfl⟩
 have hc9:=hcp1 w.drew rfl 3 (c - (i+1)) (c - i)
 rw [hw5] at hc9
 have HB5:=Lh (show Below base w0 w5 from by rw [← hw5];exact below_setRow (bel_drewN hB.out 1) HBG.out _)
 have hg5:w5.heap[g]?=some (.cells cur1 52 (0,0)):=by rw [← hw5];exact setRow_heap w.drew g _ _ _ _ HG.out
 have hv5:w5.heap[vb]?=some (.cells ys 52 (0,0)):=by rw [← hw5];exact (setRow_other w.drew g vb _ (fun h=>hne h.symm)).trans hv.out
 have HG5:=Lh hg5
 have hc10:=hcp2 w5 hg5 hv5 3 (c - i)
 clear hw5 hg5 hv5 hcp1 hcp2
 go_enter Tryz.func130,Tryz.ntmps130
 go_wp2_with (simp only [hov _ _ _ rfl])
 go_region
 clear hc9
 go_wp2
 go_ret
 refine⟨_,rfl,Lh ⟨HFIN.out.2.2,.inr ⟨g,c,cur2,rfl,HBG.out,setRow_heap _ g _ _ _ _ HG5.out,hr,HCM.out,HFIN.out.2.1,HFIN.out.1⟩⟩,?_⟩
 exact below_setRow HB5.out HBG.out _
theorem insWas_grow (g c:Nat) (hown:Hid (w.ownsRow base 52 4 (.slice (some ⟨g,0,none⟩) n c) n C)) (hC:Hid (OneC C)) (hB:Hid (Below base w0 w)) (hv:Hid (Blk w vb 52 ys)) (hys:Hid (ys.size=4)) (hy1:Hid (OneC ys.toList)) (hne:g≠vb) (hi:i<n) (hn:n≤67108864) (hr:c<n+1) (hcn:n≤c) (hbase:base≤w.heap.size) :
 InsWas base (.slice (some ⟨g,0,none⟩) n c) n C i vb ys w0 w:=by
 unfold InsWas
 obtain⟨ii,hi1,hi2,hi3,hi4⟩:=info_parts Tryz.zWas
 obtain⟨cur,hbg,hg,hcm,hsz,htk⟩:∃cur:Array Value,base≤g∧w.heap[g]?=some (.cells cur 52 (0,0))∧c≤maxLen∧cur.size=c*4∧cur.toList.take (n*4)=C:=by
  rcases hown.out.2 with ⟨h,_⟩ | ⟨g',cap',cur,ev,q1,q2,q3,q4,q5,q6⟩
  · cases h
  · injection ev with e1 e2 e3
    injection e1 with e1
    injection e1 with e1
    subst e1
    subst e3
    exact⟨cur,q1,q2,q4,q5,q6⟩
 have hlen:C.length=n*4:=hown.out.1
 have hyl:ys.toList.length=4:=by have:=hys.out;simpa using this
 have hcl:(C.drop (i*4)).length=(n - i)*4:=by rw [List.length_drop,hlen];omega
 have hgl:∀j,j<n*4→cur.toList[j]?=C[j]?:=fun j hj=>by rw [← htk,List.getElem?_take_of_lt hj]
 have hsl:=slice_from (P:=Tryz.prog) Tryz.underlying32 hi1 hi3 (some ⟨g,0,none⟩) n c i (by omega) (by omega)
 rw [if_neg (by omega),Option.map_some,addr0] at hsl
 have hs1:=slice_to (P:=Tryz.prog) Tryz.underlying32 hi1 hi3 (some ⟨g,0,none⟩) n c i (by omega)
 have hgh:g<w.heap.size:=(Blk.lt (cs:=cur) (t:=52) hg)
 have hvh:vb<w.heap.size:=hv.out.lt
 have hszi:(Tryz.prog.info? 52).map (·.size)=some 4:=by rw [hi1];simp [hi3]
 have htl:(C.take (i*4)).length=i*4:=by rw [List.length_take,hlen];omega
 have hold:(Builtin.firstCells ii.size i (.slice (some ⟨g,0,none⟩) i c)).run Tryz.prog w.drew = .ok (C.take (i*4)).toArray w.drew:=by
  rw [hi3]
  exact run_firstCells_some w.drew 4 i ⟨g,0,none⟩ i c (C.take (i*4)) htl (fun j v hj=>by
   have hjl:j<i*4:=by have:=(List.getElem?_eq_some_iff.1 hj).1;omega
   rw [addr0,cell_of_row w.drew g j cur 52 (0,0) hg]
   rw [List.getElem?_take_of_lt hjl,← hgl _ (by omega)] at hj
   simpa using hj)
 have hrz:=Lib.run_append_grow_zeros (P:=Tryz.prog) w 32 3 32 52 ii _ .i64 .i64 Tryz.underlying32 Tryz.underlying3 hi1 hi2 (some ⟨g,0,none⟩) i c (C.take (i*4)) hold (n+1 - i) (by omega) (by omega) (by omega) (by omega) (by rw [hi4];omega) (by rw [hi4];exact growslice_fits (by omega) (by omega))
 rw [show i+(n+1 - i)=n+1 by omega,show ((n+1 - i:Nat):Int)=(n:Int)+1 - (i:Int) by omega] at hrz
 have hGn:n+1≤grownCap w (n+1) c 52:=grownCap_ge w _ _ _
 have hG63:=grownCap_le_maxLen w (n+1) c 52 (by unfold maxLen;omega)
 generalize grownCap w (n+1) c 52=G at *
 obtain⟨ROW,hROW⟩:∃ROW:Array Value,ROW=(C.take (i*4)).toArray ++ Builtin.zeroCells (Value.agg #[.int .u64 0,.int .i64 0,.int .u64 0,.int .i64 0]).cells (n+1 - i) ++ Builtin.zeroCells (Value.agg #[.int .u64 0,.int .i64 0,.int .u64 0,.int .i64 0]).cells (G - (n+1)):=⟨_,rfl⟩
 have hRz:ROW.size=G*4:=by
  rw [hROW]
  simp only [Array.size_append,List.size_toArray,htl]
  have hzc:∀k,(Builtin.zeroCells (Value.agg #[.int .u64 0,.int .i64 0,.int .u64 0,.int .i64 0]).cells k).size=k*4:=fun k=>by simp [Builtin.zeroCells,Value.cells]
  rw [hzc,hzc]
  omega
 have hRt:ROW.toList.take (i*4)=C.take (i*4):=by
  rw [hROW]
  simp only [Array.toList_append,List.append_assoc]
  rw [List.take_append_of_le_length (by omega),List.take_of_length_le (by omega)]
 rw [← hROW] at hrz
 obtain⟨H,hH⟩:∃H,H=w.heap.size:=⟨_,rfl⟩
 obtain⟨w1,hw1⟩:∃w1,w.drew.alloc (.cells ROW 52)=w1:=⟨_,rfl⟩
 rw [hw1,← hH] at hrz
 have hRl:ROW.toList.length=G*4:=by simpa using hRz
 have g1:w1.heap[H]?=some (.cells ROW 52 (0,0)):=by rw [← hw1,hH];exact Blk.new w.drew _ _
 have v1:w1.heap[vb]?=some (.cells ys 52 (0,0)):=by rw [← hw1];exact (Blk.alloc (w:=w.drew) hv.out _)
 have c1:w1.heap[g]?=some (.cells cur 52 (0,0)):=by rw [← hw1];exact (Blk.alloc (w:=w.drew) hg _)
 have hB1:Below base w0 w1:=by rw [← hw1];exact (bel_drewN hB.out 1).alloc hbase _
 obtain⟨row1,hr1⟩:∃row1:Array Value,row1=(ROW.toList.take (i*4) ++ ys.toList ++ ROW.toList.drop (i*4+4)).toArray:=⟨_,rfl⟩
 have hr1z:row1.size=G*4:=by rw [hr1];simp only [List.size_toArray,List.length_append,List.length_take,List.length_drop,hRl,hyl];omega
 have hs2:=slice_from (P:=Tryz.prog) Tryz.underlying32 hi1 hi3 (some ⟨H,0,none⟩) (n+1) G i (by omega) hGn
 rw [if_neg (by omega),Option.map_some,addr0] at hs2
 have hs3:=slice_from (P:=Tryz.prog) Tryz.underlying32 hi1 hi3 (some ⟨H,0,none⟩) (n+1) G (i+1) (by omega) hGn
 rw [if_neg (by omega),Option.map_some,addr0,show n+1 - (i+1)=n - i by omega,show ((i+1:Nat):Int)=(i:Int)+1 by omega] at hs3
 have hcA:=run_copy_rowK (P:=Tryz.prog) w1 32 32 3 52 H (i*4) (n+1 - i) (G - i) ⟨vb,0,none⟩ 1 1 ROW 52 ys.toList 4 1 Tryz.underlying32 hszi g1 (by simp only [Nat.min_def];split <;> omega) (by rw [hyl]) (fun j v hj=>by
  rw [addr0,cell_of_row w1 vb j _ 52 (0,0) v1]
  simpa using hj) (by rw [hRz,hyl];omega) hy1.out
 rw [hyl,← hr1] at hcA
 obtain⟨w2,hw2⟩:∃w2,w1.setRow H row1=w2:=⟨_,rfl⟩
 rw [hw2] at hcA
 have g2:w2.heap[H]?=some (.cells row1 52 (0,0)):=by rw [← hw2];exact setRow_heap w1 H _ _ _ _ g1
 have c2:w2.heap[g]?=some (.cells cur 52 (0,0)):=by rw [← hw2];exact (setRow_other w1 H g _ (by omega)).trans c1
 have hB2:Below base w0 w2:=by rw [← hw2];exact below_setRow hB1 (by omega) _
 obtain⟨row2,hr2⟩:∃row2:Array Value,row2=(row1.toList.take ((i+1)*4) ++ C.drop (i*4) ++ row1.toList.drop ((i+1)*4+(n - i)*4)).toArray:=⟨_,rfl⟩
 have hr1l:row1.toList.length=G*4:=by simpa using hr1z
 have hr2z:row2.size=G*4:=by rw [hr2];simp only [List.size_toArray,List.length_append,List.length_take,List.length_drop,hlen,hr1l];omega
 have hcB:=run_copy_rowK (P:=Tryz.prog) w2.drew 32 32 3 52 H ((i+1)*4) (n - i) (G - (i+1)) ⟨g,i*4,none⟩ (n - i) (c - i) row1 52 (C.drop (i*4)) 4 (n - i) Tryz.underlying32 hszi g2 (by simp only [Nat.min_def];split <;> omega) hcl (fun j v hj=>by
  have hjl:j<(n - i)*4:=by have:=(List.getElem?_eq_some_iff.1 hj).1;omega
  rw [addrK,cell_of_row w2.drew g (i*4+j) cur 52 (0,0) c2]
  rw [List.getElem?_drop,← hgl _ (by omega)] at hj
  simpa using hj) (by rw [hr1z,hcl];omega) (hC.out.drop _)
 rw [hcl,← hr2] at hcB
 obtain⟨w3,hw3⟩:∃w3,w2.drew.setRow H row2=w3:=⟨_,rfl⟩
 rw [hw3] at hcB
 have HB3:=Lh (show Below base w0 w3 from by rw [← hw3];exact below_setRow (bel_drewN hB2 1) (by omega) _)
 have HG3:=Lh (show w3.heap[H]?=some (.cells row2 52 (0,0)) from by rw [← hw3];exact setRow_heap w2.drew H _ _ _ _ g2)
 have hfin:row2.toList.take ((n+1)*4)=insC C ys.toList (i*4):=by
  have h:=insK_list2 ROW.toList (C.drop (i*4)) ys.toList 4 (i*4) ((n - i)*4) hcl hyl (by rw [hRl];omega)
  rw [hr2,hr1]
  rw [show (i+1)*4=i*4+4 by omega,show (n+1)*4=i*4+4+(n - i)*4 by omega]
  rw [h,hRt]
  rfl
 have hinl:(insC C ys.toList (i*4)).length=(n+1)*4:=by rw [insC_len (by omega),hyl,hlen];omega
 have HFIN:=Lh (And.intro hfin (And.intro hr2z hinl))
 have HH:=Lh (show base≤H from by omega)
 have hw9:IntKind.i64.wrap ((i:Int)+1)=(i:Int)+1:=by rw [IntKind.wrap_i64];omega
 have hnq:((i:Int) == (n:Int))=false:=by rw [beq_eq_false_iff_ne];omega
 have hgt:decide ((n:Int)+1>(c:Int))=true:=decide_eq_true (by omega)
 have hgt2:decide ((c:Int)<(n:Int)+1)=true:=decide_eq_true (by omega)
 unfold maxLen at hG63
 have HG6:=Lh (And.intro hGn hG63)
 clear hfin hr2z hr1l hr2 hw3 hw2 hw1 hr1 hr1z hRl hRt hRz hROW hold hszi hgl hcl htk hsz hg hbg hcm hB1 hB2 g1 g2 v1 c1 c2 hH hi1 hi2 hi3 hi4 hlen hgh hvh hyl hinl htl
 go_enter Tryz.func130,Tryz.ntmps130
 go_wp2_with (at_builtin;refine Lib.wpList_append_run _ rfl _ _ _ _ rfl _ _ rfl rfl _ _ hrz ?_)
 clear hrz hcA
 go_region
 clear hcB
 go_wp2
 go_ret
 exact⟨_,rfl,Lh ⟨HFIN.out.2.2,.inr ⟨H,G,row2,rfl,HH.out,HG3.out,HG6.out.1,HG6.out.2,HFIN.out.2.1,HFIN.out.1⟩⟩,HB3.out⟩
theorem insWas (hown:Hid (w.ownsRow base 52 4 v n C)) (hC:Hid (OneC C)) (hB:Hid (Below base w0 w)) (hbase:base≤w.heap.size) (hv:Hid (Blk w vb 52 ys)) (hys:Hid (ys.size=4)) (hy1:Hid (OneC ys.toList)) (hne:v.ownBlock≠some vb) (hi:i≤n) (hn:n≤67108864) :
 InsWas base v n C i vb ys w0 w:=by
 by_cases c1:i=n
 · exact insWas_end base v n C i vb ys w0 w hown hB hbase hv hys hy1 c1 hn
 · obtain⟨g,c,rfl⟩:∃g c,v = .slice (some ⟨g,0,none⟩) n c:=by
    rcases hown.out.2 with ⟨_,h⟩ | ⟨g',cap',cur,ev,_⟩
    · have:=hown.out.1
      rw [h] at this
      simp at this
      omega
    · exact⟨g',cap',ev⟩
   have hcn:n≤c:=by
    obtain⟨_,_,ev,q1,q2⟩:=own_slice hown.out
    injection ev with _ _ ev
    subst ev
    exact q1
   have hg:g≠vb:=fun h=>hne (by rw [h];rfl)
   by_cases c2:n+1≤c
   · exact insWas_room base n C i vb ys w0 w g c hown hC hB hv hys hy1 hg (by omega) hn c2
   · exact insWas_grow base n C i vb ys w0 w g c hown hC hB hv hys hy1 hg (by omega) hn (by omega) hcn hbase
end
theorem delWas (base:Nat) (v:Value) (n:Nat) (C:List Value) (i:Nat) (w0 w:World) (hown0:Hid (w.ownsRow base 52 4 v n C)) (hC:Hid (OneC C)) (hB:Hid (Below base w0 w)) (hi:i<n) (hn:n≤67108864) :
 Calls Tryz.prog 103 #[v,.int .i64 (i:Int),.int .i64 ((i:Int)+1)] w fun e w'=>∃v',e = .returned v'∧Hid (w'.ownsRow base 52 4 v' (n - 1) (C.take (i*4) ++ C.drop ((i+1)*4)))∧Below base w0 w':=by
 obtain⟨g,c,rfl⟩:∃g c,v = .slice (some ⟨g,0,none⟩) n c:=by
  rcases hown0.out.2 with ⟨_,h⟩ | ⟨g',cap',cur,ev,_⟩
  · have:=hown0.out.1
    rw [h] at this
    simp at this
    omega
  · exact⟨g',cap',ev⟩
 have hown:=hown0
 clear hown0
 obtain⟨ii,hi1,hi2,hi3,hi4⟩:=info_parts Tryz.zWas
 obtain⟨cur,hbg,hg,hcn,hcm,hsz,htk⟩:∃cur:Array Value,base≤g∧w.heap[g]?=some (.cells cur 52 (0,0))∧n≤c∧c≤maxLen∧cur.size=c*4∧cur.toList.take (n*4)=C:=by
  rcases hown.out.2 with ⟨h,_⟩ | ⟨g',cap',cur,ev,q1,q2,q3,q4,q5,q6⟩
  · cases h
  · injection ev with e1 e2 e3
    injection e1 with e1
    injection e1 with e1
    subst e1
    subst e3
    exact⟨cur,q1,q2,q3,q4,q5,q6⟩
 have hlen:C.length=n*4:=hown.out.1
 obtain⟨m,em⟩:∃m,n - (i+1)=m:=⟨_,rfl⟩
 obtain⟨p,ep⟩:∃p,i+m=p:=⟨_,rfl⟩
 have hpn:p+1=n:=by omega
 obtain⟨news,hnews⟩:∃news,news=C.drop ((i+1)*4):=⟨_,rfl⟩
 have hnl:news.length=m*4:=by rw [hnews,List.length_drop,hlen];omega
 have hgl:∀j,j<n*4→cur.toList[j]?=C[j]?:=fun j hj=>by rw [← htk,List.getElem?_take_of_lt hj]
 have hBk:Blk w.drew g 52 cur:=hg
 obtain⟨A,hA,hsrc⟩:∃A:Addr,(if c=i+1 then (some ⟨g,0,none⟩:Option Addr) else some ⟨g,(i+1)*4,none⟩)=some A∧Hid (∀t u,news[t]?=some u→w.drew.cell? (A.add t)=some u):=by
  by_cases h:c=i+1
  · refine⟨⟨g,0,none⟩,by simp [h],fun t u hu=>?_⟩
    have h0:news.length=0:=by rw [hnl];omega
    rw [List.length_eq_zero_iff.1 h0] at hu
    simp at hu
  · refine⟨⟨g,(i+1)*4,none⟩,by simp [h],fun t u hu=>?_⟩
    have ht:t<m*4:=by
     have:=(List.getElem?_eq_some_iff.1 hu).1
     rwa [hnl] at this
    rw [addrK,hBk.cell]
    rw [hnews,List.getElem?_drop,← hgl _ (by omega)] at hu
    simpa using hu
 have hs1:=slice_to (P:=Tryz.prog) Tryz.underlying32 hi1 hi3 (some ⟨g,0,none⟩) n c i (by omega)
 have hs2:=slice_from (P:=Tryz.prog) Tryz.underlying32 hi1 hi3 (some ⟨g,0,none⟩) n c (i+1) (by omega) hcn
 rw [Option.map_some,addr0,hA,em,show ((i+1:Nat):Int)=(i:Int)+1 by omega] at hs2
 have hs4:=slice_both (P:=Tryz.prog) Tryz.underlying32 hi1 hi3 (some ⟨g,0,none⟩) p c p n (by omega) hcn
 rw [if_neg (by omega),Option.map_some,addr0,show n - p=1 by omega] at hs4
 have hs0:=slice_three (P:=Tryz.prog) Tryz.underlying32 hi1 hi3 (some ⟨g,0,none⟩) n c i (i+1) n (by omega) (by omega) hcn
 rw [show ((i+1:Nat):Int)=(i:Int)+1 by omega] at hs0
 generalize (Value.slice (if n=i then some ⟨g,0,none⟩ else (some ⟨g,0,none⟩:Option Addr).map (·.add (i*4))) (i+1 - i) (n - i))=sv at hs0
 have hnq:((i:Int) == (i:Int)+1)=false:=by rw [beq_eq_false_iff_ne];omega
 have s1:=Lh hnl
 have s2:Hid (OneC news):=Lh (by rw [hnews];exact hC.out.drop _)
 have s3:Hid (∀t,t<news.length→(w.drew.cell? ⟨g,0+i*4+t,none⟩).isSome=true∧w.drew.frozen? ⟨g,0+i*4+t,none⟩=false):=Lh fun t ht=>by
  rw [hnl] at ht
  rw [hBk.cell]
  exact⟨by have:=hsz;simp;omega,hBk.frozen _⟩
 obtain⟨W1,hW1⟩:∃W1,W1=w.drew.setCells g (0+i*4) news:=⟨_,rfl⟩
 obtain⟨z1,b1,o1,k1,l1,r1⟩:=setCells_blk g 52 news (0+i*4) w.drew cur hBk (by rw [hnl,hsz];omega)
 rw [← hW1] at b1 o1
 obtain⟨zs,hzs⟩:∃zs,zs=(Builtin.zeroCells (Value.agg #[.int .u64 0,.int .i64 0,.int .u64 0,.int .i64 0]).cells 1).toList:=⟨_,rfl⟩
 have hzl:zs.length=4:=by rw [hzs];kernel_rfl
 have hz1:∀u ∈ zs,u.oneCell'=true:=by
  have h:(Builtin.zeroCells (Value.agg #[.int .u64 0,.int .i64 0,.int .u64 0,.int .i64 0]).cells 1).toList.all (·.oneCell')=true:=by kernel_rfl
  rw [← hzs,List.all_eq_true] at h
  exact h
 obtain⟨W2,hW2⟩:∃W2,W2=W1.setCells g (p*4+0) zs:=⟨_,rfl⟩
 obtain⟨z2,b2,o2,k2,l2,r2⟩:=setCells_blk g 52 zs (p*4+0) W1 z1 b1 (by rw [hzl,k1,hsz];omega)
 rw [← hW2] at b2 o2
 have hcl:∀ty,(Builtin.clear_ #[32] ty #[.slice (some ⟨g,p*4,none⟩) 1 (c - p)]).run Tryz.prog W1 = .ok (.tuple #[]) W2:=fun ty=>by
  have h:=run_storeCells_cells (P:=Tryz.prog) g (p*4) zs 0 W1 (fun j hj=>by rw [b1.cell];rw [hzl] at hj;have:=hsz;simp;omega) (fun j hj=>b1.frozen _) hz1
  have hze:(zeroValue 52).run Tryz.prog W1 = .ok (.agg #[.int .u64 0,.int .i64 0,.int .u64 0,.int .i64 0]) W1:=by kernel_rfl
  rw [← hW2] at h
  rw [hzs] at h
  simp only [Builtin.clear_,List.getElem?_toArray,List.getElem?_cons_zero,Sem.run_bind,run_underlying Tryz.underlying32,Result.andThen_ok,hze]
  rw [h]
  rfl
 have hfin:z2.toList.take (p*4)=C.take (i*4) ++ news:=by
  apply List.ext_getElem?
  intro j
  rcases Nat.lt_or_ge j (p*4) with hj | hj
  · rw [List.getElem?_take_of_lt hj,Array.getElem?_toList,l2 j (by omega)]
    rcases Nat.lt_or_ge j (i*4) with hj2 | hj2
    · rw [List.getElem?_append_left (by rw [List.length_take,hlen];omega),List.getElem?_take_of_lt hj2,l1 j (by omega),← hgl j (by omega),Array.getElem?_toList]
    · have ht:(C.take (i*4)).length=i*4:=by rw [List.length_take,hlen];omega
      rw [List.getElem?_append_right (by omega),ht]
      have h:=r1 (j - i*4) (by rw [hnl];omega)
      rw [show 0+i*4+(j - i*4)=j by omega] at h
      exact h
  · rw [List.getElem?_eq_none (by rw [List.length_take];omega),List.getElem?_eq_none (by rw [List.length_append,List.length_take,hnl,hlen];omega)]
 have HFIN:=Lh (show W2.ownsRow base 52 4 (.slice (some ⟨g,0,none⟩) p c) (n - 1) (C.take (i*4) ++ C.drop ((i+1)*4)) from by
  rw [show n - 1=p by omega,← hnews]
  exact⟨by rw [List.length_append,List.length_take,hnl,hlen];omega,.inr ⟨g,c,z2,rfl,hbg,b2,by omega,hcm,by rw [k2,k1,hsz],hfin⟩⟩)
 have HB2:=Lh (show Below base w0 W2 from (bel_drewN hB.out 1).trans ((o1.trans o2).below hbg))
 have hW:=Lh hW1
 have EP:=Lh ep
 have hic:i≤c:=by omega
 have himc:i+m≤c:=by omega
 unfold maxLen at hcm
 clear hW1 hW2 hzs hnews hnl hgl hBk hsz htk hlen hg b1 o1 k1 l1 r1 b2 o2 k2 l2 r2 hfin hz1 hzl hA hi2 hi4 em ep
 go_enter Tryz.func103,Tryz.ntmps103
 go_wp2_with fail
 go_region_law (refine step_append_room rfl (.tmp 22) (.tmp 25) 32 rfl 52 ii 4 Tryz.underlying32 hi1 hi3 g 0 i c (by simp [Act.eval,Act.put]) A m (c - (i+1)) news (by simp [Act.eval,Act.put]) s1.out hsrc.out s2.out himc s3.out ?_;rw [← hW.out,EP.out])
 go_wp2
 go_ret
 exact⟨_,rfl,HFIN,HB2.out⟩
end
end Go.Proofs.YtdoneomahlfkbaaGreat
