/- THE MACHINE: a group is cut. (printed by gen_meh14.py). (joined out of MeH14 by shake.py) -/
import Derived.Test.YtdoneomahlfkbaaGreatOnc18
set_option linter.unusedVariables false
set_option linter.unusedSimpArgs false
set_option maxRecDepth 100000
set_option maxHeartbeats 8000000
namespace Go.Proofs.YtdoneomahlfkbaaGreat
section
open Go.RowKit OctMath StrMath PlMath
theorem reads_int {w:World} {B n:Nat} {A:Option Addr} {xs:List Int} (h:Reads w B 1 A n (xs.map iv)) {k:Nat} (hk:k<n) :
 ∃ad,A=some ad∧ad.block<B∧w.cell? (ad.add k)=some (.int .i64 (xs.getD k 0)):=by
 have hn:xs.length=n:=by simpa using h.1
 obtain⟨ad,u,e,hb,hu,hc⟩:=h.at_ hk
 refine⟨ad,e,hb,?_⟩
 rw [List.getElem?_map,List.getElem?_eq_getElem (by omega)] at hu
 rw [hc,← hu,List.getD_eq_getElem?_getD,List.getElem?_eq_getElem (by omega)]
 rfl
theorem idx_int (A:Option Addr) (n cap:Nat) (xs:List Int) (x:Int) (w:World) (hl:xs.length=n) (HR:Hid (Reads w w.heap.size 1 A n (xs.map iv))) (hm:n≤9223372036854775807) :
 Calls Tryz.prog 98 #[.slice A n cap,.int .i64 x] w fun e w'=>(∃i:Int,e = .returned (.int .i64 i)∧(xs.contains x=false→i = -1)∧(xs.contains x=true→0≤i))∧w=w':=by
 have HL:=Lh hl
 clear hl
 go_enter Tryz.func98,Tryz.ntmps98
 go_wp2
 go_loopw [5,8] (fun _ vi wr=>∃k:Nat,k≤n∧vi = .int .i64 k∧wr=w∧Hid ((xs.take k).contains x=false)) (fun _ vi _=>n - (intOf vi).toNat)
 case atStart=>exact⟨0,by omega,rfl,rfl,Lh (by simp)⟩
 case round =>
  obtain⟨k,hk,rfl,rfl,hz⟩:=hrel
  by_cases hlt:k<n
  · obtain⟨ad,rfl,_,hc⟩:=reads_int HR.out hlt
    by_cases he:x=xs.getD k 0
    · rw [← he] at hc
      have hin:Hid (xs.contains x=true):=Lh (by
       rw [List.contains_iff_mem,he,List.getD_eq_getElem?_getD,List.getElem?_eq_getElem (by rw [HL.out];exact hlt)]
       exact List.getElem_mem _)
      clear he
      go_wp2
      go_ret
      exact⟨⟨_,rfl,(fun h=>by rw [hin.out] at h;cases h),fun _=>by omega⟩,rfl⟩
    · obtain⟨y,hy⟩:∃y,xs.getD k 0=y:=⟨_,rfl⟩
      rw [hy] at hc he
      have e1:(x == y)=false:=beq_false_of_ne he
      have e2:decide (x=y)=false:=decide_eq_false he
      have H:=Lh (show (xs.take (k+1)).contains x=false from by
       rw [List.take_succ_eq_append_getElem (by rw [HL.out];exact hlt)]
       have h0:=hz.out
       have h1:xs[k]'(by rw [HL.out];exact hlt)=y:=by rw [← hy,List.getD_eq_getElem?_getD,List.getElem?_eq_getElem (by rw [HL.out];exact hlt)];rfl
       simp only [List.contains_eq_mem,List.mem_append,List.mem_singleton,h1,decide_eq_false_iff_not,not_or] at h0 ⊢
       exact⟨h0,he⟩)
      clear hy hz
      go_wp2
      exact⟨⟨k+1,by omega,by go_num,trivial,H⟩,by simp [intOf];omega⟩
  · obtain rfl:k=n:=by omega
    have hz2:=Lh (show xs.contains x=false from by have:=hz.out;rwa [List.take_of_length_le (by rw [HL.out];exact Nat.le_refl _)] at this)
    clear hz
    go_wp2
    go_ret
    exact⟨⟨_,rfl,fun _=>rfl,fun h=>by rw [hz2.out] at h;cases h⟩,rfl⟩
theorem has_int (A:Option Addr) (n cap:Nat) (xs:List Int) (x:Int) (w:World) (hl:xs.length=n) (HR:Hid (Reads w w.heap.size 1 A n (xs.map iv))) (hm:n≤9223372036854775807) :
 Calls Tryz.prog 66 #[.slice A n cap,.int .i64 x] w fun e w'=>e = .returned (.bool (xs.contains x))∧w=w':=by
 obtain⟨b,hb⟩:∃b,xs.contains x=b:=⟨_,rfl⟩
 have HB:=Lh hb
 rw [hb]
 clear hb
 go_enter Tryz.func66,Tryz.ntmps66
 go_wp2_with (go_at_call 98;refine (idx_int A n cap xs x _ hl HR hm).mono ?_;rintro e w1 ⟨⟨i,rfl,h1,h2⟩,rfl⟩;have H1:=Lh h1;have H2:=Lh h2;clear h1 h2)
 go_ret
 refine⟨?_,rfl⟩
 have h1:=H1.out
 have h2:=H2.out
 rw [HB.out] at h1 h2
 cases b with
 | false=>have:=h1 rfl;subst this;rfl
 | true =>
   have:=h2 rfl
   rw [decide_eq_true this]
   rfl
def MM.over (m:MM):MM:={ m with x:={ m.x with mep:=m.x.nep,mem:=m.x.nem,cut:=[] },MA:=m.NA,mc:=m.nc,CA:=none,cc:=0 }
theorem MS.over {G:List Nat} {g:Nat} {m:MM} {w w':World} (h:MS G g m w) (hb:w.grownBy w' (some g)) (hB:Blk w' g 72 (((m.cs.setIfInBounds 3 (.int .u64 (m.x.nep:Int))).setIfInBounds 4 (.slice m.NA m.x.nem.length m.nc)).setIfInBounds 7 (.slice none 0 0))):MS G g m.over w' :=
 h.turn hb hB (MM.All.mk' (.inr h.old.next) (.inr h.old.next) (.inl ⟨row_none w',fun k _ h0=>absurd h0 (Nat.lt_irrefl 0)⟩) (.inr h.old.objs) (.inr h.old.ints) (.inr h.old.sess) (.inr h.old.wass) (.inr h.old.down) (fun o k => .inr (h.old.os o k)) (fun o k => .inr (h.old.is o k))) h.inn.os h.inn.is ⟨h.inn.wf.ok,h.inn.wf.ik,h.inn.wf.ol,h.inn.wf.il,h.inn.wf.sl,h.inn.wf.wl,Nat.zero_le _,h.inn.wf.dl⟩
theorem cut_any (G:List Nat) (g:Nat) (m:MM) (c:CmdT) (CA:Option Addr) (cc:Nat) (w:World) (hM:Hid (MS G g m w)) (hRc:Hid (Ris intO (fun x=>x) m.x.cut)) (hlc:m.x.cut.length+1≤16777216) :
 Calls Tryz.prog 26 #[.pointer (some ⟨g,0,none⟩),.agg (cmdCs c CA cc)] w (RetRes G g (cutM m.x c) w):=by
 obtain⟨cs,ecs⟩:∃cs,cmdCs c CA cc=cs:=⟨_,rfl⟩
 have V0:=Lh (show cs[0]?=some (.int .i64 c.kind) from by rw [← ecs];rfl)
 have V1:=Lh (show cs[1]?=some (.int .u64 (c.client:Int)) from by rw [← ecs];rfl)
 have V2:=Lh (show cs[2]?=some (.int .u64 (c.seq:Int)) from by rw [← ecs];rfl)
 have V3:=Lh (show cs[3]?=some (.string (strOf c.key)) from by rw [← ecs];rfl)
 have V4:=Lh (show cs[4]?=some (.int .i64 c.size) from by rw [← ecs];rfl)
 have V5:=Lh (show cs[5]?=some (.int .u32 (c.sum:Int)) from by rw [← ecs];rfl)
 have V6:=Lh (show cs[6]?=some (.int .u64 (c.version:Int)) from by rw [← ecs];rfl)
 have V7:=Lh (show cs[7]?=some (.int .u64 (c.epoch:Int)) from by rw [← ecs];rfl)
 have V8:=Lh (show cs[8]?=some (.int .i64 c.group) from by rw [← ecs];rfl)
 have V9:=Lh (show cs[9]?=some (.int .i64 c.node) from by rw [← ecs];rfl)
 have V10:=Lh (show cs[10]?=some (.bool c.up) from by rw [← ecs];rfl)
 have V11:=Lh (show cs[11]?=some (.int .u64 (c.id.ver:Int)) from by rw [← ecs];rfl)
 have V12:=Lh (show cs[12]?=some (.int .i64 c.id.idx) from by rw [← ecs];rfl)
 have V13:=Lh (show cs[13]?=some (.int .u64 (c.id.ep:Int)) from by rw [← ecs];rfl)
 have V14:=Lh (show cs[14]?=some (.int .u64 (c.mep:Int)) from by rw [← ecs];rfl)
 have V15:=Lh (show cs[15]?=some (.slice CA c.mem.length cc) from by rw [← ecs];rfl)
 have HCS:=Lh (show cs.size=16 from by rw [← ecs];rfl)
 have HCO:=Lh (show cs.toList.all (·.oneCell')=true from by rw [← ecs];rfl)
 rw [ecs]
 have ECS:=Lh ecs
 clear ecs
 have HGL:=Lh hM.out.blk.lt
 go_enter Tryz.func26,Tryz.ntmps26
 go_upto_region 1 with (fail)
 obtain⟨w1,ew1⟩:∃w1,(w.alloc (.cells cs 48)).alloc (.cells rZ 39)=w1:=⟨_,rfl⟩
 have hb0:Below w.heap.size w ((w.alloc (.cells cs 48)).alloc (.cells rZ 39)):=((Below.refl _ _).alloc (Nat.le_refl _) _).alloc (by simp) _
 have hB:=(Blk.new w 48 cs).alloc (.cells rZ 39)
 have hR:=Blk.new (w.alloc (.cells cs 48)) 39 rZ
 have hs1:(w.alloc (.cells cs 48)).heap.size=w.heap.size+1:=by simp
 rw [hs1] at hR
 rw [ew1] at hb0 hB hR
 have ew1':(w.alloc (.cells cs 48)).alloc (.cells #[.int .i64 0,.int .u64 0,.slice none 0 0,.int .u64 0] 39)=w1:=ew1
 rw [ew1']
 have HB0:=Lh hb0
 have HB:=Lh hB
 have HRB:=Lh hR
 have HM1:=Lh (hM.out.add hb0 (k:=w.heap.size+1) (by omega) hR.lt)
 have HGG:=Lh hM.out.mem
 clear hb0 hB hR hs1 ew1 ew1' hM
 obtain⟨b0,e0⟩:∃b0,w.heap.size=b0:=⟨_,rfl⟩
 have E0:=Lh e0
 rw [e0] at HB HRB HGL HM1 ⊢
 clear e0
 obtain⟨GG,eGG⟩:∃GG,(b0+1) :: G=GG:=⟨_,rfl⟩
 have EGG:=Lh eGG
 rw [eGG] at HM1
 clear eGG
 obtain⟨gr,egr⟩:∃gr,c.group=gr:=⟨_,rfl⟩
 have EGR:=Lh egr
 rw [egr] at V8
 obtain⟨gs,egs⟩:∃gs,m.x.groups=gs:=⟨_,rfl⟩
 have EGS:=Lh egs
 obtain⟨nc,enc⟩:∃nc,m.x.cut.length=nc:=⟨_,rfl⟩
 have ENC:=Lh enc
 have hnc:nc≤16777216:=by omega
 have HNC1:=Lh (show nc+1≤16777216 from by omega)
 have c8:w1.cell? ⟨b0,8,none⟩=some (.int .i64 gr):=(HB.out.cell 8).trans V8.out
 have g2:w1.cell? ⟨g,2,none⟩=some (.int .i64 gs):=(HM1.out.blk.cell 2).trans (by rw [← egs];rfl)
 have g7:w1.cell? ⟨g,7,none⟩=some (.slice m.CA nc m.cc):=(HM1.out.blk.cell 7).trans (by rw [← enc];rfl)
 have HGB:=Lh HM1.out.blk
 have HMV:=Lh (fun W=>moving_any m W)
 have HCT:=Lh (fun W (h:Below w1.heap.size w1 W)=>has_int m.CA nc m.cc m.x.cut gr W enc (Lh (by
  have hr:=(HM1.out.inn.later h).rows.cut.rd
  unfold MM.cut at hr
  rw [ENC.out,flat_i1] at hr
  exact hr)) (by omega))
 clear egr egs enc hlc
 obtain⟨ms,ems⟩:∃ms,m.cs=ms:=⟨_,rfl⟩
 have EMZ:=Lh (show ms.size=14 from by rw [← ems];rfl)
 rw [ems] at HGB HMV
 clear ems
 obtain⟨u0,u1,u2,u3,u4,u5,u6,u7,u8,u9,u10,u11,u12,u13,rfl⟩:=arr14 EMZ.out
 clear EMZ
 have HU:=Lh (fun W (h:Below w1.heap.size w1 W)=>show W.cell? ⟨g,0,none⟩=some u0∧W.cell? ⟨g,1,none⟩=some u1∧W.cell? ⟨g,2,none⟩=some u2∧W.cell? ⟨g,3,none⟩=some u3∧W.cell? ⟨g,4,none⟩=some u4∧W.cell? ⟨g,5,none⟩=some u5∧W.cell? ⟨g,6,none⟩=some u6∧W.cell? ⟨g,7,none⟩=some u7∧W.cell? ⟨g,8,none⟩=some u8∧W.cell? ⟨g,9,none⟩=some u9∧W.cell? ⟨g,10,none⟩=some u10∧W.cell? ⟨g,11,none⟩=some u11∧W.cell? ⟨g,12,none⟩=some u12∧W.cell? ⟨g,13,none⟩=some u13 from ⟨(HGB.out.below h HGB.out.lt).cell 0,(HGB.out.below h HGB.out.lt).cell 1,(HGB.out.below h HGB.out.lt).cell 2,(HGB.out.below h HGB.out.lt).cell 3,(HGB.out.below h HGB.out.lt).cell 4,(HGB.out.below h HGB.out.lt).cell 5,(HGB.out.below h HGB.out.lt).cell 6,(HGB.out.below h HGB.out.lt).cell 7,(HGB.out.below h HGB.out.lt).cell 8,(HGB.out.below h HGB.out.lt).cell 9,(HGB.out.below h HGB.out.lt).cell 10,(HGB.out.below h HGB.out.lt).cell 11,(HGB.out.below h HGB.out.lt).cell 12,(HGB.out.below h HGB.out.lt).cell 13⟩)
 obtain⟨mv,hmv⟩:∃mv,m.x.moving=mv:=⟨_,rfl⟩
 have EMV:=Lh hmv
 rw [hmv] at HMV
 obtain⟨ct,hct⟩:∃ct,m.x.cut.contains gr=ct:=⟨_,rfl⟩
 have ECT:=Lh hct
 rw [hct] at HCT
 obtain⟨p,hp⟩:∃p,decide (gr<0)=p:=⟨_,rfl⟩
 obtain⟨q,hq⟩:∃q,decide (gs≤gr)=q:=⟨_,rfl⟩
 have hq':decide (gr≥gs)=q:=hq
 have EP:=Lh hp
 have EQ:=Lh hq
 clear hmv hct
 go_upto_region 1 with (fail)
 refine wp_region_class (fun w'=>Hid (Below w1.heap.size w1 w'∧w'.cell? ⟨b0,8,none⟩=some (.int .i64 gr)∧w'.cell? ⟨g,2,none⟩=some (.int .i64 gs)∧w'.cell? ⟨g,7,none⟩=some (.slice m.CA nc m.cc))) (by kernel_rfl) (by kernel_rfl) (Lh ⟨(Below.refl _ _).drew,c8,g2,g7⟩) ?_
 rcases (show mv=false∨(mv=true∧p=true)∨(mv=true∧p=false∧q=true)∨(mv=true∧p=false∧q=false∧ct=true)∨(mv=true∧p=false∧q=false∧ct=false) from by cases mv <;> cases p <;> cases q <;> cases ct <;> simp) with rfl | ⟨rfl,rfl⟩ | ⟨rfl,rfl,rfl⟩ | ⟨rfl,rfl,rfl,rfl⟩ | ⟨rfl,rfl,rfl,rfl⟩
 · have HNO:=Lh (show m.x.moving=false∨c.group<0∨m.x.groups≤c.group∨c.group ∈ m.x.cut from .inl EMV.out)
   repeat (first
    | go_big_quiet_skip
    | (go_big_quiet_want;go_big_quiet_op;first
        | go_big_quiet_on
        | (refine⟨_,fun _ _=>rfl,?_⟩;go_big_quiet_on)
        | (refine⟨.int .i64 gr,fun w' hw'=>?_,?_⟩
           · simp [hw'.out.2.1]
             done
           go_big_quiet_on)
        | (refine⟨.int .i64 gs,fun w' hw'=>?_,?_⟩
           · simp [hw'.out.2.2.1]
             done
           go_big_quiet_on)
        | (refine⟨.slice m.CA nc m.cc,fun w' hw'=>?_,?_⟩
           · simp [hw'.out.2.2.2]
             done
           go_big_quiet_on)
        | (refine⟨.agg #[u0,u1,u2,u3,u4,u5,u6,u7,u8,u9,u10,u11,u12,u13],fun w' hw'=>?_,?_⟩
           · obtain⟨k0,k1,k2,k3,k4,k5,k6,k7,k8,k9,k10,k11,k12,k13⟩:=HU.out w' hw'.out.1
             simp [k0,k1,k2,k3,k4,k5,k6,k7,k8,k9,k10,k11,k12,k13]
             done
           go_big_quiet_on)
        | (refine⟨.bool false,fun w' hw'=>?_,?_⟩
           · go_at_call 61
             exact (HMV.out w').mono (fun e w'' h=>⟨h.1,Lh ⟨hw'.out.1.trans (h.2.mono hw'.out.1.size),cell_later h.2 hw'.out.2.1,cell_later h.2 hw'.out.2.2.1,cell_later h.2 hw'.out.2.2.2⟩⟩)
           go_big_quiet_on)
        | (refine⟨.bool ct,fun w' hw'=>?_,?_⟩
           · go_at_call 66
             exact (HCT.out w' hw'.out.1).mono (fun e w'' h=>⟨h.1,by rw [← h.2];exact hw'⟩)
           go_big_quiet_on)))
   refine wpQuiet_nil ?_
   intro w2 hw2
   have HB2:=Lh hw2.out.1
   clear hw2
   clear c8 g2 g7 hp hq hq'
   have HX:=Lh (HM1.out.later HB2.out)
   have HGX:=Lh (gb_below HB2.out (some g))
   have HRX:=Lh (HRB.out.below HB2.out HRB.out.lt)
   go_wp2_with (first
    | (go_at_call 19;refine (when_any _ _).mono ?_;rintro e w10 ⟨rfl,hb10⟩;have HB10:=Lh hb10;clear hb10)
    | (refine wpl_store_blk rfl 39 (.tmp 4) _ rfl (b0+1) 39 rZ _ rfl rfl (HRX.out.below HB10.out HRX.out.lt) rfl Tryz.szR rfl ?_;intro w11 hB11 hO11))
   have HMF:=(HX.out.later HB10.out)
   rw [← EGG.out] at HMF
   have HTF:=TurnM.mk (gb_fresh (gb_trans (gb_trans (gb_below HB0.out (some g)) HGX.out) (gb_below HB10.out _)) hO11.out (by rw [E0.out];omega)) (HMF.sub hO11.out (by have:=HGL.out;omega) HGG.out) rfl
   refine bodyPost_ret (res_c Tryz.results26 rfl (load_blk hB11.out Tryz.underlying39 rfl Tryz.szR)) rfl ?_
   refine ret_eq ?_ (RetRes.code rfl rfl HTF)
   show (m.x,whenC false)=cutM m.x c
   unfold cutM
   rw [if_pos HNO.out]
 · have HNO:=Lh (show m.x.moving=false∨c.group<0∨m.x.groups≤c.group∨c.group ∈ m.x.cut from by rw [EGR.out];exact .inr (.inl (of_decide_eq_true EP.out)))
   repeat (first
    | go_big_quiet_skip
    | (go_big_quiet_want;go_big_quiet_op;first
        | go_big_quiet_on
        | (refine⟨_,fun _ _=>rfl,?_⟩;go_big_quiet_on)
        | (refine⟨.int .i64 gr,fun w' hw'=>?_,?_⟩
           · simp [hw'.out.2.1]
             done
           go_big_quiet_on)
        | (refine⟨.int .i64 gs,fun w' hw'=>?_,?_⟩
           · simp [hw'.out.2.2.1]
             done
           go_big_quiet_on)
        | (refine⟨.slice m.CA nc m.cc,fun w' hw'=>?_,?_⟩
           · simp [hw'.out.2.2.2]
             done
           go_big_quiet_on)
        | (refine⟨.agg #[u0,u1,u2,u3,u4,u5,u6,u7,u8,u9,u10,u11,u12,u13],fun w' hw'=>?_,?_⟩
           · obtain⟨k0,k1,k2,k3,k4,k5,k6,k7,k8,k9,k10,k11,k12,k13⟩:=HU.out w' hw'.out.1
             simp [k0,k1,k2,k3,k4,k5,k6,k7,k8,k9,k10,k11,k12,k13]
             done
           go_big_quiet_on)
        | (refine⟨.bool true,fun w' hw'=>?_,?_⟩
           · go_at_call 61
             exact (HMV.out w').mono (fun e w'' h=>⟨h.1,Lh ⟨hw'.out.1.trans (h.2.mono hw'.out.1.size),cell_later h.2 hw'.out.2.1,cell_later h.2 hw'.out.2.2.1,cell_later h.2 hw'.out.2.2.2⟩⟩)
           go_big_quiet_on)
        | (refine⟨.bool ct,fun w' hw'=>?_,?_⟩
           · go_at_call 66
             exact (HCT.out w' hw'.out.1).mono (fun e w'' h=>⟨h.1,by rw [← h.2];exact hw'⟩)
           go_big_quiet_on)))
   refine wpQuiet_nil ?_
   intro w2 hw2
   have HB2:=Lh hw2.out.1
   clear hw2
   clear c8 g2 g7 hp hq hq'
   have HX:=Lh (HM1.out.later HB2.out)
   have HGX:=Lh (gb_below HB2.out (some g))
   have HRX:=Lh (HRB.out.below HB2.out HRB.out.lt)
   go_wp2_with (first
    | (go_at_call 19;refine (when_any _ _).mono ?_;rintro e w10 ⟨rfl,hb10⟩;have HB10:=Lh hb10;clear hb10)
    | (refine wpl_store_blk rfl 39 (.tmp 4) _ rfl (b0+1) 39 rZ _ rfl rfl (HRX.out.below HB10.out HRX.out.lt) rfl Tryz.szR rfl ?_;intro w11 hB11 hO11))
   have HMF:=(HX.out.later HB10.out)
   rw [← EGG.out] at HMF
   have HTF:=TurnM.mk (gb_fresh (gb_trans (gb_trans (gb_below HB0.out (some g)) HGX.out) (gb_below HB10.out _)) hO11.out (by rw [E0.out];omega)) (HMF.sub hO11.out (by have:=HGL.out;omega) HGG.out) rfl
   refine bodyPost_ret (res_c Tryz.results26 rfl (load_blk hB11.out Tryz.underlying39 rfl Tryz.szR)) rfl ?_
   refine ret_eq ?_ (RetRes.code rfl rfl HTF)
   show (m.x,whenC false)=cutM m.x c
   unfold cutM
   rw [if_pos HNO.out]
 · have HNO:=Lh (show m.x.moving=false∨c.group<0∨m.x.groups≤c.group∨c.group ∈ m.x.cut from by rw [EGR.out,EGS.out];exact .inr (.inr (.inl (of_decide_eq_true EQ.out))))
   repeat (first
    | go_big_quiet_skip
    | (go_big_quiet_want;go_big_quiet_op;first
        | go_big_quiet_on
        | (refine⟨_,fun _ _=>rfl,?_⟩;go_big_quiet_on)
        | (refine⟨.int .i64 gr,fun w' hw'=>?_,?_⟩
           · simp [hw'.out.2.1]
             done
           go_big_quiet_on)
        | (refine⟨.int .i64 gs,fun w' hw'=>?_,?_⟩
           · simp [hw'.out.2.2.1]
             done
           go_big_quiet_on)
        | (refine⟨.slice m.CA nc m.cc,fun w' hw'=>?_,?_⟩
           · simp [hw'.out.2.2.2]
             done
           go_big_quiet_on)
        | (refine⟨.agg #[u0,u1,u2,u3,u4,u5,u6,u7,u8,u9,u10,u11,u12,u13],fun w' hw'=>?_,?_⟩
           · obtain⟨k0,k1,k2,k3,k4,k5,k6,k7,k8,k9,k10,k11,k12,k13⟩:=HU.out w' hw'.out.1
             simp [k0,k1,k2,k3,k4,k5,k6,k7,k8,k9,k10,k11,k12,k13]
             done
           go_big_quiet_on)
        | (refine⟨.bool true,fun w' hw'=>?_,?_⟩
           · go_at_call 61
             exact (HMV.out w').mono (fun e w'' h=>⟨h.1,Lh ⟨hw'.out.1.trans (h.2.mono hw'.out.1.size),cell_later h.2 hw'.out.2.1,cell_later h.2 hw'.out.2.2.1,cell_later h.2 hw'.out.2.2.2⟩⟩)
           go_big_quiet_on)
        | (refine⟨.bool ct,fun w' hw'=>?_,?_⟩
           · go_at_call 66
             exact (HCT.out w' hw'.out.1).mono (fun e w'' h=>⟨h.1,by rw [← h.2];exact hw'⟩)
           go_big_quiet_on)))
   refine wpQuiet_nil ?_
   intro w2 hw2
   have HB2:=Lh hw2.out.1
   clear hw2
   clear c8 g2 g7 hp hq hq'
   have HX:=Lh (HM1.out.later HB2.out)
   have HGX:=Lh (gb_below HB2.out (some g))
   have HRX:=Lh (HRB.out.below HB2.out HRB.out.lt)
   go_wp2_with (first
    | (go_at_call 19;refine (when_any _ _).mono ?_;rintro e w10 ⟨rfl,hb10⟩;have HB10:=Lh hb10;clear hb10)
    | (refine wpl_store_blk rfl 39 (.tmp 4) _ rfl (b0+1) 39 rZ _ rfl rfl (HRX.out.below HB10.out HRX.out.lt) rfl Tryz.szR rfl ?_;intro w11 hB11 hO11))
   have HMF:=(HX.out.later HB10.out)
   rw [← EGG.out] at HMF
   have HTF:=TurnM.mk (gb_fresh (gb_trans (gb_trans (gb_below HB0.out (some g)) HGX.out) (gb_below HB10.out _)) hO11.out (by rw [E0.out];omega)) (HMF.sub hO11.out (by have:=HGL.out;omega) HGG.out) rfl
   refine bodyPost_ret (res_c Tryz.results26 rfl (load_blk hB11.out Tryz.underlying39 rfl Tryz.szR)) rfl ?_
   refine ret_eq ?_ (RetRes.code rfl rfl HTF)
   show (m.x,whenC false)=cutM m.x c
   unfold cutM
   rw [if_pos HNO.out]
 · have HNO:=Lh (show m.x.moving=false∨c.group<0∨m.x.groups≤c.group∨c.group ∈ m.x.cut from by rw [EGR.out];exact .inr (.inr (.inr (List.contains_iff_mem.1 ECT.out))))
   repeat (first
    | go_big_quiet_skip
    | (go_big_quiet_want;go_big_quiet_op;first
        | go_big_quiet_on
        | (refine⟨_,fun _ _=>rfl,?_⟩;go_big_quiet_on)
        | (refine⟨.int .i64 gr,fun w' hw'=>?_,?_⟩
           · simp [hw'.out.2.1]
             done
           go_big_quiet_on)
        | (refine⟨.int .i64 gs,fun w' hw'=>?_,?_⟩
           · simp [hw'.out.2.2.1]
             done
           go_big_quiet_on)
        | (refine⟨.slice m.CA nc m.cc,fun w' hw'=>?_,?_⟩
           · simp [hw'.out.2.2.2]
             done
           go_big_quiet_on)
        | (refine⟨.agg #[u0,u1,u2,u3,u4,u5,u6,u7,u8,u9,u10,u11,u12,u13],fun w' hw'=>?_,?_⟩
           · obtain⟨k0,k1,k2,k3,k4,k5,k6,k7,k8,k9,k10,k11,k12,k13⟩:=HU.out w' hw'.out.1
             simp [k0,k1,k2,k3,k4,k5,k6,k7,k8,k9,k10,k11,k12,k13]
             done
           go_big_quiet_on)
        | (refine⟨.bool true,fun w' hw'=>?_,?_⟩
           · go_at_call 61
             exact (HMV.out w').mono (fun e w'' h=>⟨h.1,Lh ⟨hw'.out.1.trans (h.2.mono hw'.out.1.size),cell_later h.2 hw'.out.2.1,cell_later h.2 hw'.out.2.2.1,cell_later h.2 hw'.out.2.2.2⟩⟩)
           go_big_quiet_on)
        | (refine⟨.bool true,fun w' hw'=>?_,?_⟩
           · go_at_call 66
             exact (HCT.out w' hw'.out.1).mono (fun e w'' h=>⟨h.1,by rw [← h.2];exact hw'⟩)
           go_big_quiet_on)))
   refine wpQuiet_nil ?_
   intro w2 hw2
   have HB2:=Lh hw2.out.1
   clear hw2
   clear c8 g2 g7 hp hq hq'
   have HX:=Lh (HM1.out.later HB2.out)
   have HGX:=Lh (gb_below HB2.out (some g))
   have HRX:=Lh (HRB.out.below HB2.out HRB.out.lt)
   go_wp2_with (first
    | (go_at_call 19;refine (when_any _ _).mono ?_;rintro e w10 ⟨rfl,hb10⟩;have HB10:=Lh hb10;clear hb10)
    | (refine wpl_store_blk rfl 39 (.tmp 4) _ rfl (b0+1) 39 rZ _ rfl rfl (HRX.out.below HB10.out HRX.out.lt) rfl Tryz.szR rfl ?_;intro w11 hB11 hO11))
   have HMF:=(HX.out.later HB10.out)
   rw [← EGG.out] at HMF
   have HTF:=TurnM.mk (gb_fresh (gb_trans (gb_trans (gb_below HB0.out (some g)) HGX.out) (gb_below HB10.out _)) hO11.out (by rw [E0.out];omega)) (HMF.sub hO11.out (by have:=HGL.out;omega) HGG.out) rfl
   refine bodyPost_ret (res_c Tryz.results26 rfl (load_blk hB11.out Tryz.underlying39 rfl Tryz.szR)) rfl ?_
   refine ret_eq ?_ (RetRes.code rfl rfl HTF)
   show (m.x,whenC false)=cutM m.x c
   unfold cutM
   rw [if_pos HNO.out]
 · have HYS:=Lh (show ¬ (m.x.moving=false∨c.group<0∨m.x.groups≤c.group∨c.group ∈ m.x.cut) from by
    rw [EGR.out,EGS.out,EMV.out]
    rintro (h | h | h | h)
    · cases h
    · exact of_decide_eq_false EP.out h
    · exact of_decide_eq_false EQ.out h
    · have h9:=List.contains_iff_mem.2 h
      rw [ECT.out] at h9
      cases h9)
   repeat (first
    | go_big_quiet_skip
    | (go_big_quiet_want;go_big_quiet_op;first
        | go_big_quiet_on
        | (refine⟨_,fun _ _=>rfl,?_⟩;go_big_quiet_on)
        | (refine⟨.int .i64 gr,fun w' hw'=>?_,?_⟩
           · simp [hw'.out.2.1]
             done
           go_big_quiet_on)
        | (refine⟨.int .i64 gs,fun w' hw'=>?_,?_⟩
           · simp [hw'.out.2.2.1]
             done
           go_big_quiet_on)
        | (refine⟨.slice m.CA nc m.cc,fun w' hw'=>?_,?_⟩
           · simp [hw'.out.2.2.2]
             done
           go_big_quiet_on)
        | (refine⟨.agg #[u0,u1,u2,u3,u4,u5,u6,u7,u8,u9,u10,u11,u12,u13],fun w' hw'=>?_,?_⟩
           · obtain⟨k0,k1,k2,k3,k4,k5,k6,k7,k8,k9,k10,k11,k12,k13⟩:=HU.out w' hw'.out.1
             simp [k0,k1,k2,k3,k4,k5,k6,k7,k8,k9,k10,k11,k12,k13]
             done
           go_big_quiet_on)
        | (refine⟨.bool true,fun w' hw'=>?_,?_⟩
           · go_at_call 61
             exact (HMV.out w').mono (fun e w'' h=>⟨h.1,Lh ⟨hw'.out.1.trans (h.2.mono hw'.out.1.size),cell_later h.2 hw'.out.2.1,cell_later h.2 hw'.out.2.2.1,cell_later h.2 hw'.out.2.2.2⟩⟩)
           go_big_quiet_on)
        | (refine⟨.bool false,fun w' hw'=>?_,?_⟩
           · go_at_call 66
             exact (HCT.out w' hw'.out.1).mono (fun e w'' h=>⟨h.1,by rw [← h.2];exact hw'⟩)
           go_big_quiet_on)))
   refine wpQuiet_nil ?_
   intro w2 hw2
   have HB2:=Lh hw2.out.1
   clear hw2
   have C8:=Lh c8
   have G5:=Lh (show w1.cell? ⟨g,5,none⟩=some (.int .u64 (m.x.nep:Int)) from HM1.out.blk.cell 5)
   clear c8 g2 g7 hp hq hq'
   obtain⟨no,eno⟩:∃no,m.x.objs.length=no:=⟨_,rfl⟩
   have ENOno:=Lh eno
   have hnono:no≤16777216:=by rw [← eno];exact HM1.out.inn.wf.ol
   have HLNno:=Lh (show m.os.length=no from by rw [← eno];exact HM1.out.inn.olen)
   obtain⟨OA,eOA⟩:∃OA,m.OA=OA:=⟨_,rfl⟩
   have HRDno:=Lh (show Reads w1 w1.heap.size 7 OA no (m.os.flatMap omCs) from by have:=HM1.out.inn.rows.objs.rd;unfold MM.objs at this;rw [eno,eOA] at this;exact this)
   have r1:w2.cell? ⟨g,8,none⟩=some (.slice OA no m.oc):=cell_later HB2.out ((HM1.out.blk.cell 8).trans (by rw [← eno,← eOA];rfl))
   clear eno eOA
   go_wp2_with fail
   clear r1
   go_loopw [47] (fun vi wr=>∃k:Nat,k≤no∧vi = .int .i64 k∧Hid (∀j (hj:j<k) (h:j<m.os.length),oldM m.x gr m.os[j].x=false)∧Hid (Below w2.heap.size w2 wr)) (fun vi _=>no - (intOf vi).toNat)
   case atStart=>exact⟨0,by omega,rfl,Lh (fun j hj=>absurd hj (by omega)),Lh (Below.refl _ _)⟩
   case round =>
    obtain⟨k,hk,rfl,HV,HBk⟩:=hrel
    by_cases hlt:k<no
    · have hmsl:k<m.os.length:=by have:=HLNno.out;omega
      obtain⟨ad,rfl,hadb,hcell⟩:=elem_cells (cells:=omCs) (K:=7) (fun _=>rfl) HRDno.out hmsl (by omega)
      have HME:=Lh (show m.os[k] ∈ m.os from List.getElem_mem hmsl)
      obtain⟨o,eo⟩:∃o,m.os[k]=o:=⟨_,rfl⟩
      rw [eo] at hcell HME
      have EO:=Lh (show ∃h:k<m.os.length,m.os[k]=o from ⟨hmsl,eo⟩)
      have HB1k:=Lh (HB2.out.trans (HBk.out.mono HB2.out.size))
      have HC1:=Lh (fun j v hv=>(HB1k.out.cell (p:=(ad.add (k*7)).add j) (by rw [block_of_add,block_of_add];exact hadb)).trans (hcell j v hv))
      clear eo hmsl hcell hadb
      obtain⟨b4,e4⟩:∃b4,wr.heap.size=b4:=⟨_,rfl⟩
      have E4:=Lh e4
      clear e4
      cases hz:oldM m.x gr o.x with
      | true =>
        have HZ:=Lh hz
        have HN:=Lh (fun W h5 h6=>old_any g o gr m.x W h5 h6)
        rw [show (o).x=o.x from rfl,hz] at HN
        clear hz
        go_wp2_with (first
         | (refine wpl_load_at rfl 58 (.tmp 49) rfl (ad.add (k*7)) (omCs o) _ rfl HC1.out Tryz.underlying58 rfl rfl ?_)
         | (refine wpl_store_blk rfl 58 (.tmp 6) (.tmp 50) rfl wr.heap.size 58 oZ (oA o) rfl rfl (Blk.new wr _ _) rfl Tryz.szObj rfl ?_;intro w4 hB4 hO4;have HT4:=Lh (show Blk w4 b4 58 (oA o) from by rw [← E4.out];exact hB4.out); have HB4:=Lh (show Below wr.heap.size wr w4 from ((Below.refl _ _).alloc (Nat.le_refl _) _).trans (hO4.out.below (Nat.le_refl _)));have k8:w4.cell? ⟨b0,8,none⟩=some (.int .i64 gr):=cell_later (HB1k.out.trans (HB4.out.mono HB1k.out.size)) C8.out;rw [E4.out];clear hB4 hO4)
         | (refine wpl_load_blk rfl 58 (.tmp 6) rfl _ 58 (oA o) _ rfl HT4.out Tryz.underlying58 rfl Tryz.szObj ?_)
         | (go_at_call 67;refine (HN.out w4 (cell_later (HB1k.out.trans (HB4.out.mono HB1k.out.size)) G5.out) (Nat.lt_of_lt_of_le (HM1.out.lt g HM1.out.mem) (Nat.le_trans HB1k.out.size HB4.out.size))).mono ?_;rintro e w5 ⟨rfl,hb5⟩;have HB5:=Lh (HB4.out.trans (hb5.mono HB4.out.size));clear hb5))
        have HBX:=Lh (HB1k.out.trans (HB5.out.mono HB1k.out.size))
        have HX:=Lh (HM1.out.later HBX.out)
        have HGX:=Lh (gb_below HBX.out (some g))
        have HRX:=Lh (HRB.out.below HBX.out HRB.out.lt)
        go_wp2_with (first
         | (go_at_call 19;refine (when_any _ _).mono ?_;rintro e w10 ⟨rfl,hb10⟩;have HB10:=Lh hb10;clear hb10)
         | (refine wpl_store_blk rfl 39 (.tmp 4) _ rfl (b0+1) 39 rZ _ rfl rfl (HRX.out.below HB10.out HRX.out.lt) rfl Tryz.szR rfl ?_;intro w11 hB11 hO11))
        have HMF:=(HX.out.later HB10.out)
        rw [← EGG.out] at HMF
        have HTF:=TurnM.mk (gb_fresh (gb_trans (gb_trans (gb_below HB0.out (some g)) HGX.out) (gb_below HB10.out _)) hO11.out (by rw [E0.out];omega)) (HMF.sub hO11.out (by have:=HGL.out;omega) HGG.out) rfl
        refine bodyPost_ret (res_c Tryz.results26 rfl (load_blk hB11.out Tryz.underlying39 rfl Tryz.szR)) rfl ?_
        refine ret_eq ?_ (RetRes.code rfl rfl HTF)
        show (m.x,whenC false)=cutM m.x c
        unfold cutM
        rw [if_neg HYS.out,EGR.out,if_pos (by rw [Bool.or_eq_true];exact .inl (List.any_eq_true.2 ⟨_,obj_mem HM1.out.inn HME.out,HZ.out⟩))]
      | false =>
        have HZ:=Lh hz
        have HN:=Lh (fun W h5 h6=>old_any g o gr m.x W h5 h6)
        rw [show (o).x=o.x from rfl,hz] at HN
        clear hz
        go_wp2_with (first
         | (refine wpl_load_at rfl 58 (.tmp 49) rfl (ad.add (k*7)) (omCs o) _ rfl HC1.out Tryz.underlying58 rfl rfl ?_)
         | (refine wpl_store_blk rfl 58 (.tmp 6) (.tmp 50) rfl wr.heap.size 58 oZ (oA o) rfl rfl (Blk.new wr _ _) rfl Tryz.szObj rfl ?_;intro w4 hB4 hO4;have HT4:=Lh (show Blk w4 b4 58 (oA o) from by rw [← E4.out];exact hB4.out); have HB4:=Lh (show Below wr.heap.size wr w4 from ((Below.refl _ _).alloc (Nat.le_refl _) _).trans (hO4.out.below (Nat.le_refl _)));have k8:w4.cell? ⟨b0,8,none⟩=some (.int .i64 gr):=cell_later (HB1k.out.trans (HB4.out.mono HB1k.out.size)) C8.out;rw [E4.out];clear hB4 hO4)
         | (refine wpl_load_blk rfl 58 (.tmp 6) rfl _ 58 (oA o) _ rfl HT4.out Tryz.underlying58 rfl Tryz.szObj ?_)
         | (go_at_call 67;refine (HN.out w4 (cell_later (HB1k.out.trans (HB4.out.mono HB1k.out.size)) G5.out) (Nat.lt_of_lt_of_le (HM1.out.lt g HM1.out.mem) (Nat.le_trans HB1k.out.size HB4.out.size))).mono ?_;rintro e w5 ⟨rfl,hb5⟩;have HB5:=Lh (HB4.out.trans (hb5.mono HB4.out.size));clear hb5))
        refine⟨⟨k+1,by omega,by go_num,Lh (fun j hj h=>?_),Lh (HBk.out.trans (HB5.out.mono HBk.out.size))⟩,by simp [intOf];omega⟩
        by_cases hjk:j<k
        · exact HV.out j hjk h
        · obtain rfl:j=k:=by omega
          obtain⟨hmsl,em⟩:=EO.out
          rw [em]
          exact HZ.out
    · obtain rfl:k=no:=by omega
      obtain⟨we,hwe⟩:∃we,we=wr:=⟨_,rfl⟩
      subst hwe
      have HB3:=Lh (HB2.out.trans (HBk.out.mono HB2.out.size))
      clear HBk
      obtain⟨ni,eno⟩:∃ni,m.x.ints.length=ni:=⟨_,rfl⟩
      have ENOni:=Lh eno
      have hnoni:ni≤16777216:=by rw [← eno];exact HM1.out.inn.wf.il
      have HLNni:=Lh (show m.is.length=ni from by rw [← eno];exact HM1.out.inn.ilen)
      obtain⟨IA,eOA⟩:∃IA,m.IA=IA:=⟨_,rfl⟩
      have HRDni:=Lh (show Reads w1 w1.heap.size 9 IA ni (m.is.flatMap imCs) from by have:=HM1.out.inn.rows.ints.rd;unfold MM.ints at this;rw [eno,eOA] at this;exact this)
      have r1:we.cell? ⟨g,9,none⟩=some (.slice IA ni m.ic):=cell_later HB3.out ((HM1.out.blk.cell 9).trans (by rw [← eno,← eOA];rfl))
      clear eno eOA
      go_wp2_with fail
      clear r1
      go_loopw [64] (fun vi wr=>∃k:Nat,k≤ni∧vi = .int .i64 k∧Hid (∀j (hj:j<k) (h:j<m.is.length),oldM m.x gr m.is[j].x.obj=false)∧Hid (Below we.heap.size we wr)) (fun vi _=>ni - (intOf vi).toNat)
      case atStart=>exact⟨0,by omega,rfl,Lh (fun j hj=>absurd hj (by omega)),Lh (Below.refl _ _)⟩
      case round =>
       obtain⟨k,hk,rfl,HV2,HBk⟩:=hrel
       by_cases hlt:k<ni
       · have hmsl:k<m.is.length:=by have:=HLNni.out;omega
         obtain⟨ad,rfl,hadb,hcell⟩:=elem_cells (cells:=imCs) (K:=9) (fun _=>rfl) HRDni.out hmsl (by omega)
         have HME:=Lh (show m.is[k] ∈ m.is from List.getElem_mem hmsl)
         obtain⟨o,eo⟩:∃o,m.is[k]=o:=⟨_,rfl⟩
         rw [eo] at hcell HME
         have EO:=Lh (show ∃h:k<m.is.length,m.is[k]=o from ⟨hmsl,eo⟩)
         have HB1k:=Lh (HB3.out.trans (HBk.out.mono HB3.out.size))
         have HC1:=Lh (fun j v hv=>(HB1k.out.cell (p:=(ad.add (k*9)).add j) (by rw [block_of_add,block_of_add];exact hadb)).trans (hcell j v hv))
         clear eo hmsl hcell hadb
         obtain⟨b4,e4⟩:∃b4,wr.heap.size=b4:=⟨_,rfl⟩
         have E4:=Lh e4
         clear e4
         cases hz:oldM m.x gr o.x.obj with
         | true =>
           have HZ:=Lh hz
           have HN:=Lh (fun W h5 h6=>old_any g (toO o) gr m.x W h5 h6)
           rw [show ((toO o)).x=o.x.obj from rfl,hz] at HN
           clear hz
           go_wp2_with (first
            | (refine wpl_load_at rfl 60 (.tmp 66) rfl (ad.add (k*9)) (imCs o) _ rfl HC1.out Tryz.underlying60 rfl rfl ?_)
            | (refine wpl_store_blk rfl 60 (.tmp 8) (.tmp 67) rfl wr.heap.size 60 iZ (iA o) rfl rfl (Blk.new wr _ _) rfl Tryz.szIt rfl ?_;intro w4 hB4 hO4;have HT4:=Lh (show Blk w4 b4 60 (iA o) from by rw [← E4.out];exact hB4.out);have HOC:=Lh (iA_obj HT4.out);have HB4:=Lh (show Below wr.heap.size wr w4 from ((Below.refl _ _).alloc (Nat.le_refl _) _).trans (hO4.out.below (Nat.le_refl _)));have k8:w4.cell? ⟨b0,8,none⟩=some (.int .i64 gr):=cell_later (HB1k.out.trans (HB4.out.mono HB1k.out.size)) C8.out;rw [E4.out];clear hB4 hO4)
            | (refine wpl_load_at rfl 58 (.tmp 69) rfl ⟨b4,0,none⟩ (omCs (toO o)) _ rfl HOC.out Tryz.underlying58 rfl rfl ?_)
            | (go_at_call 67;refine (HN.out w4 (cell_later (HB1k.out.trans (HB4.out.mono HB1k.out.size)) G5.out) (Nat.lt_of_lt_of_le (HM1.out.lt g HM1.out.mem) (Nat.le_trans HB1k.out.size HB4.out.size))).mono ?_;rintro e w5 ⟨rfl,hb5⟩;have HB5:=Lh (HB4.out.trans (hb5.mono HB4.out.size));clear hb5))
           have HBX:=Lh (HB1k.out.trans (HB5.out.mono HB1k.out.size))
           have HX:=Lh (HM1.out.later HBX.out)
           have HGX:=Lh (gb_below HBX.out (some g))
           have HRX:=Lh (HRB.out.below HBX.out HRB.out.lt)
           go_wp2_with (first
            | (go_at_call 19;refine (when_any _ _).mono ?_;rintro e w10 ⟨rfl,hb10⟩;have HB10:=Lh hb10;clear hb10)
            | (refine wpl_store_blk rfl 39 (.tmp 4) _ rfl (b0+1) 39 rZ _ rfl rfl (HRX.out.below HB10.out HRX.out.lt) rfl Tryz.szR rfl ?_;intro w11 hB11 hO11))
           have HMF:=(HX.out.later HB10.out)
           rw [← EGG.out] at HMF
           have HTF:=TurnM.mk (gb_fresh (gb_trans (gb_trans (gb_below HB0.out (some g)) HGX.out) (gb_below HB10.out _)) hO11.out (by rw [E0.out];omega)) (HMF.sub hO11.out (by have:=HGL.out;omega) HGG.out) rfl
           refine bodyPost_ret (res_c Tryz.results26 rfl (load_blk hB11.out Tryz.underlying39 rfl Tryz.szR)) rfl ?_
           refine ret_eq ?_ (RetRes.code rfl rfl HTF)
           show (m.x,whenC false)=cutM m.x c
           unfold cutM
           rw [if_neg HYS.out,EGR.out,if_pos (by rw [Bool.or_eq_true];exact .inr (List.any_eq_true.2 ⟨_,int_mem HM1.out.inn HME.out,HZ.out⟩))]
         | false =>
           have HZ:=Lh hz
           have HN:=Lh (fun W h5 h6=>old_any g (toO o) gr m.x W h5 h6)
           rw [show ((toO o)).x=o.x.obj from rfl,hz] at HN
           clear hz
           go_wp2_with (first
            | (refine wpl_load_at rfl 60 (.tmp 66) rfl (ad.add (k*9)) (imCs o) _ rfl HC1.out Tryz.underlying60 rfl rfl ?_)
            | (refine wpl_store_blk rfl 60 (.tmp 8) (.tmp 67) rfl wr.heap.size 60 iZ (iA o) rfl rfl (Blk.new wr _ _) rfl Tryz.szIt rfl ?_;intro w4 hB4 hO4;have HT4:=Lh (show Blk w4 b4 60 (iA o) from by rw [← E4.out];exact hB4.out);have HOC:=Lh (iA_obj HT4.out);have HB4:=Lh (show Below wr.heap.size wr w4 from ((Below.refl _ _).alloc (Nat.le_refl _) _).trans (hO4.out.below (Nat.le_refl _)));have k8:w4.cell? ⟨b0,8,none⟩=some (.int .i64 gr):=cell_later (HB1k.out.trans (HB4.out.mono HB1k.out.size)) C8.out;rw [E4.out];clear hB4 hO4)
            | (refine wpl_load_at rfl 58 (.tmp 69) rfl ⟨b4,0,none⟩ (omCs (toO o)) _ rfl HOC.out Tryz.underlying58 rfl rfl ?_)
            | (go_at_call 67;refine (HN.out w4 (cell_later (HB1k.out.trans (HB4.out.mono HB1k.out.size)) G5.out) (Nat.lt_of_lt_of_le (HM1.out.lt g HM1.out.mem) (Nat.le_trans HB1k.out.size HB4.out.size))).mono ?_;rintro e w5 ⟨rfl,hb5⟩;have HB5:=Lh (HB4.out.trans (hb5.mono HB4.out.size));clear hb5))
           refine⟨⟨k+1,by omega,by go_num,Lh (fun j hj h=>?_),Lh (HBk.out.trans (HB5.out.mono HBk.out.size))⟩,by simp [intOf];omega⟩
           by_cases hjk:j<k
           · exact HV2.out j hjk h
           · obtain rfl:j=k:=by omega
             obtain⟨hmsl,em⟩:=EO.out
             rw [em]
             exact HZ.out
       · obtain rfl:k=ni:=by omega
         have HVO:=Lh HV.out
         have HVI:=Lh HV2.out
         obtain⟨wi,hwi⟩:∃wi,wi=wr:=⟨_,rfl⟩
         subst hwi
         have HB4:=Lh (HB3.out.trans (HBk.out.mono HB3.out.size))
         have HM1i:=Lh (HM1.out.later HB4.out)
         have HBi:=Lh (HB.out.below HB4.out HB.out.lt)
         have HRi:=Lh (HRB.out.below HB4.out HRB.out.lt)
         go_upto_region 15 with (fail)
         obtain⟨nn,enn⟩:∃nn,m.x.cut.length=nn:=⟨_,rfl⟩
         have ENN:=Lh enn
         have hnn:nn≤16777216:=by rw [← enn];exact HM1i.out.inn.wf.cl
         have HLN:=Lh (show (m.x.cut).length=nn from by rw [← enn])
         clear enn
         refine wp_region_late (S0:=fun w'=>w'.cell? ⟨b0,8,none⟩=some (.int .i64 gr)) (S:=fun w'=>w'.cell? ⟨g,7,none⟩=some (.slice m.CA nn m.cc)) 15 16 (by kernel_rfl) rfl ⟨(HBi.out.cell 8).trans V8.out,(HM1i.out.blk.cell 7).trans (by rw [← ENN.out];rfl)⟩ (fun wd hwd hH=>?_)
         have DW:=Lh (show Below wi.heap.size wi wd from by rw [hwd];exact (Below.refl _ _).drew)
         clear hwd
         have HMd:=Lh (HM1i.out.later DW.out)
         have HBid:=Lh (HBi.out.below DW.out HBi.out.lt)
         refine tS 0 rfl ?_ hH ?_ ?_
         rotate_left
         · (intro wx hx;go_simp <;> with_reducible rfl)
         try simp only [Act.put,pA9,pZ9,pS9]
         refine tS 1 rfl ?_ hH ?_ ?_
         rotate_left
         · (intro wx hx;go_simp <;> with_reducible rfl)
         try simp only [Act.put,pA9,pZ9,pS9]
         refine tS 2 rfl ?_ hH ?_ ?_
         rotate_left
         · (intro wx hx;go_simp <;> with_reducible rfl)
         try simp only [Act.put,pA9,pZ9,pS9]
         refine tS 3 rfl ?_ hH ?_ ?_
         rotate_left
         · (intro wx hx;go_simp <;> with_reducible rfl)
         try simp only [Act.put,pA9,pZ9,pS9]
         refine tS 4 rfl ?_ hH ?_ ?_
         rotate_left
         · (intro wx hx;go_simp <;> with_reducible rfl)
         try simp only [Act.put,pA9,pZ9,pS9]
         refine wpAnyT_take 5 (v:=?_) rfl (by kernel_rfl) (fun _ _ _ h=>h) (Or.inl ⟨by rfl,?_⟩) hH ?_
         rotate_left
         · (intro wx hx;go_simp <;> with_reducible rfl)
         try simp only [Act.put,pA9,pZ9,pS9]
         refine tS 6 rfl ?_ hH ?_ ?_
         rotate_left
         · (intro wx hx;go_simp <;> with_reducible rfl)
         try simp only [Act.put,pA9,pZ9,pS9]
         refine tS 7 rfl ?_ hH ?_ ?_
         rotate_left
         · (intro wx hx;go_simp <;> with_reducible rfl)
         try simp only [Act.put,pA9,pZ9,pS9]
         refine tS 8 rfl ?_ hH ?_ ?_
         rotate_left
         · (intro wx hx;go_simp <;> with_reducible rfl)
         try simp only [Act.put,pA9,pZ9,pS9]
         refine tS 9 rfl ?_ hH ?_ ?_
         rotate_left
         · (intro wx hx;go_simp <;> with_reducible rfl)
         try simp only [Act.put,pA9,pZ9,pS9]
         refine wpAnyT_one 10 rfl (by kernel_rfl) (fun K hQ=>?_)
         go_simp
         (go_at_call 69;refine (mkI64 (gr) _).mono ?_;rintro e w8 ⟨rfl,hc8,hb8⟩)
         have HC8:=Lh hc8
         have HB8:=Lh hb8
         have HM8:=Lh (HMd.out.later hb8)
         clear hc8 hb8
         refine hQ.out _ _ ?_ (fun hH10=>?_)
         · exact⟨((HBid.out.below HB8.out HBid.out.lt).cell 8).trans V8.out,(HM8.out.blk.cell 7).trans (by rw [← ENN.out];rfl)⟩
         clear hQ K
         try simp only [Act.put,pA9,pZ9,pS9]
         refine wpAnyT_one 11 rfl (by kernel_rfl) (fun K hQ=>?_)
         go_simp
         (go_at_call 68;refine (putI64 m.CA nn m.cc m.x.cut (gr) wd.heap.size (gr) _ (Lh (by have:=HM8.out.inn.rows.cut.rd;unfold MM.cut at this;rw [ENN.out] at this;exact this)) (Lh HLN.out) (by omega) HC8 (Lh fun _ _=>trivial) trivial).mono ?_;rintro e w9 ⟨v9,rfl,ho9,hb9⟩)
         obtain⟨A9,c9,rfl,h91,h92⟩:=own_slice ho9
         have HO9:=Lh (rowIn_own ho9)
         have HM9:=Lh (HM8.out.later hb9)
         have HB89:=Lh (HB8.out.trans (hb9.mono HB8.out.size))
         have z0:w9.cell? ⟨g,7,none⟩=some (.slice m.CA nn m.cc):=(HM9.out.blk.cell 7).trans (by rw [← ENN.out];rfl)
         have z1:w9.frozen? ⟨g,7,none⟩=false:=HM9.out.blk.frozen 7
         clear ho9 hb9
         refine hQ.out _ _ ?_ (fun hH11=>?_)
         · exact⟨((HBid.out.below HB89.out HBid.out.lt).cell 8).trans V8.out,z0⟩
         clear hQ K
         try simp only [Act.put,pA9,pZ9,pS9]
         refine tS 12 rfl ?_ hH11 ?_ ?_
         rotate_left
         · (intro wx hx;go_simp <;> with_reducible rfl)
         try simp only [Act.put,pA9,pZ9,pS9]
         refine tS 13 rfl ?_ hH11 ?_ ?_
         rotate_left
         · (intro wx hx;go_simp <;> with_reducible rfl)
         try simp only [Act.put,pA9,pZ9,pS9]
         refine tS 14 rfl ?_ hH11 ?_ ?_
         rotate_left
         · (intro wx hx;go_simp <;> with_reducible rfl)
         try simp only [Act.put,pA9,pZ9,pS9]
         refine wpAnyT_last 15 rfl (by kernel_rfl) (by decide) (fun K hQ=>?_)
         go_simp
         refine hQ.out _ _ ?_ (fun hH15=>?_)
         · exact (((HBid.out.below HB89.out HBid.out.lt).far (Nat.ne_of_gt HGL.out) _).cell 8).trans V8.out
         clear hQ K
         try simp only [Act.put,pA9,pZ9,pS9]
         refine wpAnyT_done (by kernel_rfl) ?_ _
         obtain⟨L9,eL9⟩:∃L,putB (fL (cmpI64 (gr)) m.x.cut) (gr) (m.x.cut)=L:=⟨_,rfl⟩
         have hsub:∀q ∈ L9,q=gr∨q ∈ m.x.cut:=fun q hq=>by rw [← eL9] at hq;exact mem_putB hq
         have hlen:L9.length≤nn+1:=by rw [← HLN.out,← eL9,putB_len];split <;> omega
         rw [eL9] at HO9 ⊢
         have SUB:=Lh hsub
         have LEN:=Lh hlen
         have EL9:=Lh eL9
         clear eL9 hsub hlen
         have GS:=Lh (HM9.out.blk.set_ 7 (.slice A9 L9.length c9))
         have OS:=Lh (Only.set_ w9 g 7 (.slice A9 L9.length c9))
         obtain⟨wx,hwx⟩:∃wx,w9.setCell ⟨g,7,none⟩ (.slice A9 L9.length c9)=wx:=⟨_,rfl⟩
         rw [hwx] at GS OS ⊢
         clear hwx z0 z1 hH hH10 hH11 hH15
         have hO9:∀q ∈ GG,(⟨1,A9,c9,L9.length,L9.flatMap i1⟩:RowT).Off q:=fun q hq=>HO9.out.2 q (HM8.out.lt q hq)
         have hI9:(⟨1,A9,c9,L9.length,L9.flatMap i1⟩:RowT).In w9:=HO9.out.1
         have HX9:=Lh (HM9.out.setCut (gb_only OS.out) GS.out (hI9.grown (hO9 g HM9.out.mem) (gb_only OS.out)) hO9 (by have:=LEN.out;have:=ENN.out;have:=ENC.out;have:=HNC1.out;omega))
         have HGX9:=Lh (gb_trans (gb_trans (gb_below HB4.out (some g)) (gb_trans (gb_below DW.out (some g)) (gb_below HB89.out _))) (gb_only OS.out))
         have HEQ:=Lh (show L9=putR intO (fun x=>x) gr m.x.cut from by rw [← EL9.out];exact putB_eq (o:=intO) (key:=fun x=>x) hRc.out gr)
         have HRX9:=Lh (HRB.out.gb HGX9.out (by have:=HGL.out;omega))
         have hln:L9.length≤16777217:=by have:=LEN.out;omega
         obtain⟨m9,em9⟩:∃m9,m.setCut L9 A9 c9=m9:=⟨_,rfl⟩
         have HX9x:=Lh (show m9.x={ m.x with cut:=L9 } from by rw [← em9];rfl)
         obtain⟨ln,eln⟩:∃ln,L9.length=ln:=⟨_,rfl⟩
         have z7:wx.cell? ⟨g,7,none⟩=some (.slice A9 ln c9):=(HX9.out.blk.cell 7).trans (by rw [← eln];rfl)
         have z2:wx.cell? ⟨g,2,none⟩=some (.int .i64 gs):=(HX9.out.blk.cell 2).trans (by rw [← EGS.out];rfl)
         have z5:wx.cell? ⟨g,5,none⟩=some (.int .u64 (m.x.nep:Int)):=HX9.out.blk.cell 5
         have z6:wx.cell? ⟨g,6,none⟩=some (.slice m.NA m.x.nem.length m.nc):=HX9.out.blk.cell 6
         have HNN:=Lh (show m9.x.nep=m.x.nep∧m9.NA=m.NA∧m9.x.nem=m.x.nem∧m9.nc=m.nc from by rw [← em9];exact⟨rfl,rfl,rfl,rfl⟩)
         have hov:m9.over.x={ m.x with mep:=m.x.nep,mem:=m.x.nem,cut:=[] }:=by rw [← em9];rfl
         have hcut:cutM m.x c=if (ln:Int)=gs then (m9.over.x,whenC true) else (m9.x,whenC true):=by
          unfold cutM
          rw [if_neg HYS.out,EGR.out,if_neg (fun h=>by
           rw [Bool.or_eq_true] at h
           rcases h with h | h
           · obtain⟨o,ho,hz⟩:=List.any_eq_true.1 h
             rw [← HM1.out.inn.os] at ho
             obtain⟨q,hq,rfl⟩:=List.mem_map.1 ho
             obtain⟨j,hj,rfl⟩:=List.mem_iff_getElem.1 hq
             have:=HVO.out j (by rw [← HLNno.out];exact hj) hj
             rw [this] at hz
             cases hz
           · obtain⟨o,ho,hz⟩:=List.any_eq_true.1 h
             rw [← HM1.out.inn.is] at ho
             obtain⟨q,hq,rfl⟩:=List.mem_map.1 ho
             obtain⟨j,hj,rfl⟩:=List.mem_iff_getElem.1 hq
             have:=HVI.out j (by rw [← HLNni.out];exact hj) hj
             rw [this] at hz
             cases hz)]
          have e1:((putR intO (fun x=>x) gr m.x.cut).length:Int)=ln:=by rw [← HEQ.out,eln]
          show (if ((putR intO (fun x=>x) gr m.x.cut).length:Int)=m.x.groups then _ else _)=_
          by_cases hb:(ln:Int)=gs
          · rw [if_pos hb,hov]
            exact if_pos (by rw [e1,EGS.out];exact hb)
          · rw [if_neg hb,HX9x.out,HEQ.out]
            exact if_neg (by rw [e1,EGS.out];exact hb)
         have HCUT:=Lh hcut
         have HMX:=Lh (show MS GG g m9 wx from by rw [← em9];exact HX9.out)
         clear HX9 hcut em9 eln hln
         by_cases hbb:(ln:Int)=gs
         · have d1:((ln:Int) == gs)=true:=by rw [hbb];exact beq_self_eq_true _
           have d2:decide ((ln:Int)=gs)=true:=decide_eq_true hbb
           have hc:=HCUT.out
           rw [if_pos hbb] at hc
           have HCC:=Lh hc
           clear hc hbb HCUT
           go_upto_region 16 with (fail)
           refine wp_region_class (fun w'=>Hid (Below wx.heap.size wx w'∧w'.cell? ⟨g,7,none⟩=some (.slice A9 ln c9)∧w'.cell? ⟨g,2,none⟩=some (.int .i64 gs))) (by kernel_rfl) (by kernel_rfl) (Lh ⟨(Below.refl _ _).drew,z7,z2⟩) ?_
           repeat (first
            | go_big_quiet_skip
            | (go_big_quiet_want;go_big_quiet_op;first
                | go_big_quiet_on
                | (refine⟨_,fun _ _=>rfl,?_⟩;go_big_quiet_on)
                | (refine⟨.slice A9 ln c9,fun w' hw'=>?_,?_⟩
                   · simp [hw'.out.2.1]
                     done
                   go_big_quiet_on)
                | (refine⟨.int .i64 gs,fun w' hw'=>?_,?_⟩
                   · simp [hw'.out.2.2]
                     done
                   go_big_quiet_on)))
           refine wpQuiet_nil ?_
           intro wy hwy
           have HBy:=Lh hwy.out.1
           clear hwy z7 z2
           have HMy:=Lh (HMX.out.later HBy.out)
           have HGy:=Lh (gb_trans HGX9.out (gb_below HBy.out (some g)))
           have HRy:=Lh (HRX9.out.below HBy.out HRX9.out.lt)
           have z5:wy.cell? ⟨g,5,none⟩=some (.int .u64 (m.x.nep:Int)):=cell_later HBy.out z5
           have z6:wy.cell? ⟨g,6,none⟩=some (.slice m.NA m.x.nem.length m.nc):=cell_later HBy.out z6
           have z3:wy.cell? ⟨g,3,none⟩=some (.int .u64 (m9.x.mep:Int)):=HMy.out.blk.cell 3
           have z4:wy.cell? ⟨g,4,none⟩=some (.slice m9.MA m9.x.mem.length m9.mc):=HMy.out.blk.cell 4
           have z7:wy.cell? ⟨g,7,none⟩=some (.slice m9.CA m9.x.cut.length m9.cc):=HMy.out.blk.cell 7
           have y3:wy.frozen? ⟨g,3,none⟩=false:=HMy.out.blk.frozen 3
           have y4:wy.frozen? ⟨g,4,none⟩=false:=HMy.out.blk.frozen 4
           have y7:wy.frozen? ⟨g,7,none⟩=false:=HMy.out.blk.frozen 7
           go_upto_region 18 with (fail)
           have GS9:=(((HMy.out.blk.set_ 3 (.int .u64 (m.x.nep:Int))).set_ 4 (.slice m.NA m.x.nem.length m.nc)).set_ 7 (.slice none 0 0))
           have OS9:=((Only.set_ wy g 3 (.int .u64 (m.x.nep:Int))).trans (Only.set_ _ g 4 (.slice m.NA m.x.nem.length m.nc))).trans (Only.set_ _ g 7 (.slice none 0 0))
           obtain⟨wz,ewz⟩:∃wz,((wy.setCell ⟨g,3,none⟩ (.int .u64 (m.x.nep:Int))).setCell ⟨g,4,none⟩ (.slice m.NA m.x.nem.length m.nc)).setCell ⟨g,7,none⟩ (.slice none 0 0)=wz:=⟨_,rfl⟩
           rw [ewz] at GS9 OS9 ⊢
           have HX:=Lh (HMy.out.over (gb_only OS9) (by rw [HNN.out.1,HNN.out.2.1,HNN.out.2.2.1,HNN.out.2.2.2];exact GS9))
           have HGX:=Lh (gb_trans HGy.out (gb_only OS9))
           have HRX:=Lh (OS9.blk HRy.out (by have:=HGL.out;omega))
           clear z3 z4 z5 z6 z7 y3 y4 y7 GS9 OS9 ewz HMy HGy HRy
           go_wp2_with (first
            | (go_at_call 19;refine (when_any _ _).mono ?_;rintro e w10 ⟨rfl,hb10⟩;have HB10:=Lh hb10;clear hb10)
            | (refine wpl_store_blk rfl 39 (.tmp 4) _ rfl (b0+1) 39 rZ _ rfl rfl (HRX.out.below HB10.out HRX.out.lt) rfl Tryz.szR rfl ?_;intro w11 hB11 hO11))
           have HMF:=(HX.out.later HB10.out)
           rw [← EGG.out] at HMF
           have HTF:=TurnM.mk (gb_fresh (gb_trans (gb_trans (gb_below HB0.out (some g)) HGX.out) (gb_below HB10.out _)) hO11.out (by rw [E0.out];omega)) (HMF.sub hO11.out (by have:=HGL.out;omega) HGG.out) rfl
           refine bodyPost_ret (res_c Tryz.results26 rfl (load_blk hB11.out Tryz.underlying39 rfl Tryz.szR)) rfl ?_
           refine ret_eq ?_ (RetRes.code rfl rfl HTF)
           show (m9.over.x,whenC true)=cutM m.x c
           exact HCC.out.symm
         · have d1:((ln:Int) == gs)=false:=beq_false_of_ne hbb
           have d2:decide ((ln:Int)=gs)=false:=decide_eq_false hbb
           have hc:=HCUT.out
           rw [if_neg hbb] at hc
           have HCC:=Lh hc
           clear hc hbb HCUT
           go_upto_region 16 with (fail)
           refine wp_region_class (fun w'=>Hid (Below wx.heap.size wx w'∧w'.cell? ⟨g,7,none⟩=some (.slice A9 ln c9)∧w'.cell? ⟨g,2,none⟩=some (.int .i64 gs))) (by kernel_rfl) (by kernel_rfl) (Lh ⟨(Below.refl _ _).drew,z7,z2⟩) ?_
           repeat (first
            | go_big_quiet_skip
            | (go_big_quiet_want;go_big_quiet_op;first
                | go_big_quiet_on
                | (refine⟨_,fun _ _=>rfl,?_⟩;go_big_quiet_on)
                | (refine⟨.slice A9 ln c9,fun w' hw'=>?_,?_⟩
                   · simp [hw'.out.2.1]
                     done
                   go_big_quiet_on)
                | (refine⟨.int .i64 gs,fun w' hw'=>?_,?_⟩
                   · simp [hw'.out.2.2]
                     done
                   go_big_quiet_on)))
           refine wpQuiet_nil ?_
           intro wy hwy
           have HBy:=Lh hwy.out.1
           clear hwy z7 z2
           have HMy:=Lh (HMX.out.later HBy.out)
           have HGy:=Lh (gb_trans HGX9.out (gb_below HBy.out (some g)))
           have HRy:=Lh (HRX9.out.below HBy.out HRX9.out.lt)
           have HX:=HMy
           have HGX:=HGy
           have HRX:=HRy
           go_wp2_with (first
            | (go_at_call 19;refine (when_any _ _).mono ?_;rintro e w10 ⟨rfl,hb10⟩;have HB10:=Lh hb10;clear hb10)
            | (refine wpl_store_blk rfl 39 (.tmp 4) _ rfl (b0+1) 39 rZ _ rfl rfl (HRX.out.below HB10.out HRX.out.lt) rfl Tryz.szR rfl ?_;intro w11 hB11 hO11))
           have HMF:=(HX.out.later HB10.out)
           rw [← EGG.out] at HMF
           have HTF:=TurnM.mk (gb_fresh (gb_trans (gb_trans (gb_below HB0.out (some g)) HGX.out) (gb_below HB10.out _)) hO11.out (by rw [E0.out];omega)) (HMF.sub hO11.out (by have:=HGL.out;omega) HGG.out) rfl
           refine bodyPost_ret (res_c Tryz.results26 rfl (load_blk hB11.out Tryz.underlying39 rfl Tryz.szR)) rfl ?_
           refine ret_eq ?_ (RetRes.code rfl rfl HTF)
           show (m9.x,whenC true)=cutM m.x c
           exact HCC.out.symm
end
end Go.Proofs.YtdoneomahlfkbaaGreat
