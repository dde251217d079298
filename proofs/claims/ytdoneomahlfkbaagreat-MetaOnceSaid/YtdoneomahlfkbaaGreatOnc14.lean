/- The walks of the logarithm, the program's and the reference's; The walks of the straws' costs, the program's and the reference's; More words for rows -/
import Derived.Lib.BitFns
import Derived.Lib.Walk
import Derived.Lib.ConvBytes
import Derived.Maps.Own
import Derived.Maps.OwnOps
import Derived.Maps.OwnSet
import Derived.Maps.Views
import Derived.Test.YtdoneomahlfkbaaGreatOnc13
import Derived.Test.YtdoneomahlfkbaaGreatOnc01
set_option linter.unusedVariables false
set_option linter.unusedSimpArgs false
set_option maxRecDepth 100000
set_option maxHeartbeats 4000000
section
namespace Go.Proofs.YtdoneomahlfkbaaGreat
open Go.RowKit StrMath
theorem len8_all:∀j:Fin 256,1≤j.val→(Lib.len8tab[j.val]'(by rw [Lib.len8tab_size];exact j.isLt)).toNat=Nat.log2 j.val+1:=by decide +kernel
theorem len8_log (u:Nat) (h1:1≤u) (h2:u<256):(Lib.len8tab[u]'(by rw [Lib.len8tab_size];exact h2)).toNat=Nat.log2 u+1:=len8_all ⟨u,h2⟩ h1
theorem len64_small (u:Nat) (w:World) (h1:1≤u) (h2:u<256) :
 Calls Tryz.prog 164 #[.int .u64 u] w fun e w'=>e = .returned (.int .i64 ((Nat.log2 u+1:Nat):Int))∧w=w':=by
 have a1:decide ((4294967296:Int)≤(u:Int))=false:=decide_eq_false (by omega)
 have a2:decide ((65536:Int)≤(u:Int))=false:=decide_eq_false (by omega)
 have a3:decide ((256:Int)≤(u:Int))=false:=decide_eq_false (by omega)
 go_enter Tryz.func164,Tryz.ntmps164
 go_wp2
 go_ret
 have l:=log2_le h1 (by omega)
 refine⟨ret_int ?_,rfl⟩
 rw [len8_log u h1 h2]
 simp only [wrap64]
 omega
theorem len64_mid (u:Nat) (w:World) (h1:256≤u) (h2:u<65536) :
 Calls Tryz.prog 164 #[.int .u64 u] w fun e w'=>e = .returned (.int .i64 ((Nat.log2 u+1:Nat):Int))∧w=w':=by
 have a1:decide ((4294967296:Int)≤(u:Int))=false:=decide_eq_false (by omega)
 have a2:decide ((65536:Int)≤(u:Int))=false:=decide_eq_false (by omega)
 have a3:decide ((256:Int)≤(u:Int))=true:=decide_eq_true (by omega)
 have a4:0≤(u:Int) / 256∧(u:Int) / 256<(Lib.len8tab.size:Int):=by rw [Lib.len8tab_size];omega
 go_enter Tryz.func164,Tryz.ntmps164
 go_wp2
 go_ret
 have l:=log2_le (u:=u) (by omega) (by omega)
 have e2:Nat.log2 u=Nat.log2 (u / 256)+8:=by
  have h3:=log2_rng (show 1≤u / 256 by omega)
  have h0:u≠0:=by omega
  refine (Nat.log2_eq_iff h0).2 ⟨?_,?_⟩
  · rw [Nat.pow_add]
    have:=h3.1
    omega
  · rw [show (u / 256).log2+8+1=((u / 256).log2+1)+8 from by omega,Nat.pow_add]
    have:=h3.2
    omega
 refine⟨ret_int ?_,rfl⟩
 rw [len8_log (u / 256) (by omega) (by omega),e2]
 simp only [wrap64]
 omega
theorem len8_1:Lib.len8 1=1:=by decide +kernel
theorem len64_top (w:World) :
 Calls Tryz.prog 164 #[.int .u64 65536] w fun e w'=>e = .returned (.int .i64 17)∧w=w':=by
 have e1:=len8_1
 go_enter Tryz.func164,Tryz.ntmps164
 go_wp2
 go_ret
 exact⟨rfl,rfl⟩
theorem len64_any (u:Nat) (w:World) (h1:1≤u) (h2:u≤65536) :
 Calls Tryz.prog 164 #[.int .u64 u] w fun e w'=>e = .returned (.int .i64 ((Nat.log2 u+1:Nat):Int))∧w=w':=by
 by_cases h3:u<256
 · exact len64_small u w h1 h3
 · by_cases h4:u<65536
   · exact len64_mid u w (by omega) h4
   · obtain rfl:u=65536:=by omega
     have e:Nat.log2 65536=16:=by rw [show (65536:Nat)=2 ^ 16 from rfl,Nat.log2_two_pow]
     rw [e]
     exact len64_top w
theorem len_any (u:Nat) (w:World) (h1:1≤u) (h2:u≤65536) :
 Calls Tryz.prog 157 #[.int .u64 u] w fun e w'=>e = .returned (.int .i64 ((Nat.log2 u+1:Nat):Int))∧w=w':=by
 go_enter Tryz.func157,Tryz.ntmps157
 go_wp2_with fail
 refine (len64_any u _ h1 h2).mono ?_
 rintro e w' ⟨rfl,rfl⟩
 go_wp2
 go_ret
 exact⟨rfl,rfl⟩
theorem or_bit (a b:Nat) (ha:a<4611686018427387904) (hb:b≤1):bits .or .i64 ((a:Int)*2) (b:Int)=((2*a+b:Nat):Int):=by
 have e1:BitVec.ofInt 64 ((a:Int)*2)=BitVec.ofInt 64 ((2*a:Nat):Int):=by congr 1;omega
 have e2:(2*a) ||| b=2*a+b:=by
  have:=Nat.two_pow_add_eq_or_of_lt (i:=1) (b:=b) (by omega) a
  rw [Nat.pow_one] at this
  exact this.symm
 show IntKind.i64.wrap ((BitVec.ofInt 64 ((a:Int)*2) ||| BitVec.ofInt 64 (b:Int)).toNat:Int)=_
 rw [e1,BitVec.toNat_or,ofInt_u64 (2*a) (by omega),ofInt_u64 b (by omega),e2]
 simp only [IntKind.wrap,IntKind.signed,IntKind.bits]
 simp
 omega
theorem round_eqs (y:Nat) (h1:2147483648≤y) (h2:y<4294967296) :
 IntKind.u64.wrap ((y:Int)*(y:Int)) / 2147483648=((stZ y:Nat):Int)∧((stZ y:Nat):Int) / 4294967296=((stB y:Nat):Int)∧((stZ y:Nat):Int) / 2 ^ (stB y)=((stY y:Nat):Int):=by
 have h3:=sq_lt h2
 have h4:=stZ_ge h1
 have h5:=stZ_lt h2
 refine⟨?_,?_,?_⟩
 · rw [← Int.natCast_mul,IntKind.wrap_u64];unfold stZ;omega
 · unfold stB;split <;> omega
 · unfold stB stY;split
   · simp
   · simp
theorem ln_any (u:Int) (w:World) (wu:Lit.wf (.int .i64 u)) :
 Calls Tryz.prog 145 #[.int .i64 u] w fun e w'=>e = .returned (.int .i64 (ln u:Nat))∧w=w':=by
 have ha : -9223372036854775808≤u∧u≤9223372036854775807:=by simpa [Lit.wf,IntKind.min,IntKind.max,IntKind.signed,IntKind.bits] using wu
 clear wu
 by_cases h1:u<1∨65536<u
 · have e0:ln u=0:=by unfold ln;rw [if_pos h1]
   rw [e0]
   by_cases h2:u<1
   · have d1:decide (u<1)=true:=decide_eq_true h2
     go_enter Tryz.func145,Tryz.ntmps145
     go_wp2
     go_ret
     exact⟨rfl,rfl⟩
   · have d1:decide (u<1)=false:=decide_eq_false h2
     have d2:decide (65536<u)=true:=decide_eq_true (by omega)
     go_enter Tryz.func145,Tryz.ntmps145
     go_wp2
     go_ret
     exact⟨rfl,rfl⟩
 · obtain⟨n,rfl⟩:∃n:Nat,u=n:=⟨u.toNat,by omega⟩
   have g1:1≤n:=by omega
   have g2:n≤65536:=by omega
   have d1:decide ((n:Int)<1)=false:=decide_eq_false (by omega)
   have d2:decide ((65536:Int)<(n:Int))=false:=decide_eq_false (by omega)
   have hk:=log2_le g1 g2
   have hlen:=fun W=>len_any n W g1 g2
   obtain⟨k,ek⟩:∃k,Nat.log2 n=k:=⟨_,rfl⟩
   rw [ek] at hk hlen
   have y1:=yOf_rng g1 g2
   have ey:yOf n=n*2 ^ (31 - k):=by unfold yOf;rw [ek]
   have el:ln (n:Int)=k*16777216+nN 24 (yOf n):=by unfold ln lnN;rw [if_neg h1,Int.toNat_natCast,ek]
   obtain⟨y0,ey0⟩:∃y,yOf n=y:=⟨_,rfl⟩
   rw [ey0] at ey y1 el
   have q0:IntKind.u64.wrap ((n:Int)*2 ^ (31 - k))=(y0:Int):=by
    rw [show (n:Int)*2 ^ (31 - k)=((n*2 ^ (31 - k):Nat):Int) from by simp,← ey,IntKind.wrap_u64];omega
   have HL:=Lh hlen
   have EK:=Lh el
   have Y1:=Lh y1
   clear hlen ek el ey ey0 y1
   go_enter Tryz.func145,Tryz.ntmps145
   go_wp2_with fail
   refine (HL.out _).mono ?_
   rintro e w' ⟨rfl,rfl⟩
   go_wp2
   go_loop [4,5,6,23] (fun vy vo vb vi=>∃j:Nat,j≤24∧vi = .int .i64 j∧vy = .int .u64 (yN j y0:Nat)∧vo = .int .i64 (k*2 ^ j+nN j y0:Nat)) (fun _ _ _ vi=>24 - (intOf vi).toNat)
   case atStart=>exact⟨0,by omega,rfl,rfl,by simp [nN]⟩
   case round =>
    obtain⟨j,hj,rfl,rfl,rfl⟩:=hrel
    have y2:=yN_rng Y1.out.1 Y1.out.2 j
    have n2:=nN_lt y0 j
    by_cases hlt:j<24
    · have r0:=round_eqs (yN j y0) y2.1 y2.2
      have r5:k*2 ^ j+nN j y0<4611686018427387904:=by
       have p1:=Nat.pow_le_pow_right (n:=2) (by omega) (show j≤24 by omega)
       have p2:=Nat.mul_le_mul hk p1
       omega
      have r4:=or_bit (k*2 ^ j+nN j y0) (stB (yN j y0)) r5 (stB_le _)
      have r6:k*2 ^ (j+1)+nN (j+1) y0=2*(k*2 ^ j+nN j y0)+stB (yN j y0):=by
       show k*2 ^ (j+1)+(2*nN j y0+stB (yN j y0))=_
       rw [Nat.pow_succ,← Nat.mul_assoc];omega
      have r7:yN (j+1) y0=stY (yN j y0):=rfl
      have r8:=stB_le (yN j y0)
      have r9:=stZ_lt y2.2
      obtain⟨y,e1⟩:∃y,yN j y0=y:=⟨_,rfl⟩
      obtain⟨m,e2⟩:∃m,k*2 ^ j+nN j y0=m:=⟨_,rfl⟩
      rw [e1] at r0 r4 r6 r7 r8 r9 y2 ⊢
      rw [e2] at r4 r5 r6 ⊢
      obtain⟨z,e3⟩:∃z,stZ y=z:=⟨_,rfl⟩
      obtain⟨b,e4⟩:∃b,stB y=b:=⟨_,rfl⟩
      obtain⟨y',e5⟩:∃y',stY y=y':=⟨_,rfl⟩
      rw [e3,e4,e5] at r0
      rw [e4] at r4 r6 r8
      rw [e3] at r9
      rw [e5] at r7
      obtain⟨q1,q2,q3⟩:=r0
      have R6:=Lh r6
      have R7:=Lh r7
      clear r6 r7 e1 e2 e3 e4 e5 n2
      go_wp2
      exact⟨⟨j+1,by omega,by go_num,by rw [R7.out],by rw [R6.out];simp⟩,by simp [intOf];omega⟩
    · obtain rfl:j=24:=by omega
      rw [show (2:Nat) ^ 24=16777216 from rfl,← EK.out]
      go_wp2
      go_ret
      exact⟨rfl,rfl⟩
end Go.Proofs.YtdoneomahlfkbaaGreat
end
section
namespace Go.Proofs.YtdoneomahlfkbaaGreat
open Go.RowKit StrMath
theorem and_65535 (h:Nat) (hh:h<18446744073709551616):bits .and .u64 (h:Int) 65535=((h % 65536:Nat):Int):=by
 have:=u64_and_nat h 65535 hh (by omega)
 rw [show (65535:Nat)=2 ^ 16 - 1 from rfl,Nat.and_two_pow_sub_one_eq_mod] at this
 exact this
theorem cost_any (h:Nat) (wt:Int) (w:World) (hh:h<18446744073709551616) (ww:Lit.wf (.int .i64 wt)) :
 Calls Tryz.prog 115 #[.int .u64 h,.int .i64 wt] w fun e w'=>e = .returned (.int .i64 (cost h wt))∧w=w':=by
 have ha : -9223372036854775808≤wt∧wt≤9223372036854775807:=by simpa [Lit.wf,IntKind.min,IntKind.max,IntKind.signed,IntKind.bits] using ww
 clear ww
 by_cases h1:wt<1
 · have d1:decide (wt<1)=true:=decide_eq_true h1
   have e0:cost h wt=9223372036854775807:=by unfold cost;rw [if_pos h1]
   rw [e0]
   go_enter Tryz.func115,Tryz.ntmps115
   go_wp2
   go_ret
   exact⟨rfl,rfl⟩
 · have d1:decide (wt<1)=false:=decide_eq_false h1
   have b1:=and_65535 h hh
   have b2:h % 65536<65536:=Nat.mod_lt _ (by decide)
   have e0:cost h wt=((268435456 - (ln ((h % 65536:Nat)+1:Int):Int))*65536) / min wt 65535:=by unfold cost;rw [if_neg h1]
   obtain⟨d,ed⟩:∃d,h % 65536=d:=⟨_,rfl⟩
   rw [ed] at b1 b2 e0
   have hl:=fun W=>ln_any ((d:Int)+1) W (by simp [Lit.wf,IntKind.min,IntKind.max,IntKind.signed,IntKind.bits];omega)
   have l1:=ln_le ((d:Int)+1)
   obtain⟨L,eL⟩:∃L,ln ((d:Int)+1)=L:=⟨_,rfl⟩
   rw [eL] at e0 hl l1
   rw [e0]
   have HL:=Lh hl
   clear e0 hl ed eL
   go_enter Tryz.func115,Tryz.ntmps115
   go_wp2_with fail
   refine (HL.out _).mono ?_
   rintro e w' ⟨rfl,rfl⟩
   go_wp2
   go_ret
   exact⟨rfl,rfl⟩
def txS (c b:Nat):Nat:=(c ^^^ b)*1099511628211 % 18446744073709551616
def txtS (c:Nat) (bs:List Nat):Nat:=bs.foldl txS c
def textN (bs:List Nat):Nat:=mixN (txtS 14695981039346656037 bs)
theorem txS_lt (c b:Nat):txS c b<18446744073709551616:=Nat.mod_lt _ (by decide)
theorem txtS_lt (bs:List Nat):∀c,c<18446744073709551616→txtS c bs<18446744073709551616:=by
 induction bs with
 | nil=>intro c h;exact h
 | cons b bs ih=>intro c _;exact ih _ (txS_lt c b)
theorem txtS_take (c:Nat) (bs:List Nat) (k:Nat) (h:k<bs.length):txtS c (bs.take (k+1))=txS (txtS c (bs.take k)) (bs.getD k 0):=by
 rw [take_snocD bs k h];unfold txtS;rw [List.foldl_append,List.foldl_cons,List.foldl_nil]
def natsOf (s:ByteArray):List Nat:=s.data.toList.map UInt8.toNat
theorem natsOf_len (s:ByteArray):(natsOf s).length=s.size:=by unfold natsOf;rw [List.length_map,Array.length_toList];rfl
theorem natsOf_get (s:ByteArray) (k:Nat) (h:k<s.size):(natsOf s).getD k 0=(s[k]'h).toNat:=by
 have h':k<s.data.toList.length:=by rw [Array.length_toList];exact h
 unfold natsOf
 rw [List.getD_eq_getElem?_getD,List.getElem?_map,List.getElem?_eq_getElem h']
 rfl
theorem natsOf_lt (s:ByteArray) (k:Nat):(natsOf s).getD k 0<256:=by
 unfold natsOf
 rw [List.getD_eq_getElem?_getD,List.getElem?_map]
 cases s.data.toList[k]? with
 | none=>decide
 | some b=>exact b.toNat_lt
theorem txt_eqs (c x:Nat) (hc:c<18446744073709551616) (hx:x<256):∃d:Nat,bits .xor .u64 (c:Int) (x:Int)=(d:Int)∧IntKind.u64.wrap ((d:Int)*1099511628211)=((txS c x:Nat):Int):=by
 refine⟨c ^^^ x,u64_xor_nat c x hc (by omega),?_⟩
 unfold txS
 rw [IntKind.wrap_u64]
 omega
theorem bytesWorld_bel (w:World) (e:TypeId) (s:ByteArray):Below w.heap.size w (Lib.bytesWorld w e s):=by
 have h:Below w.heap.size w (w.drew.alloc (.cells (Lib.bytesCells w e s) e)):=((Below.refl _ _).drew).alloc (Nat.le_refl _) _
 refine⟨h.os,h.tape,h.output,by rw [Lib.bytesWorld_size];omega,fun j hj=>Lib.bytesWorld_at_old w e s j hj⟩
theorem bytesWorld_reads (w:World) (e:TypeId) (s:ByteArray):Reads (Lib.bytesWorld w e s) (w.heap.size+1) 1 (some ⟨w.heap.size,0,none⟩) s.size ((natsOf s).map bv):=by
 refine⟨by rw [List.length_map,natsOf_len];omega,fun _=>⟨_,rfl,Nat.lt_succ_self _,fun j u hu=>?_⟩⟩
 have hj:j<s.size:=by
  rw [← natsOf_len s,← List.length_map (f:=bv)]
  exact (List.getElem?_eq_some_iff.1 hu).1
 have h1:=Lib.bytesWorld_cell w e s j hj
 have h2:=natsOf_get s j hj
 have h3:s.data.toList.getD j 0=s[j]'hj:=by
  rw [List.getD_eq_getElem?_getD,List.getElem?_eq_getElem (by rw [Array.length_toList];exact hj)]
  rfl
 have h4:((natsOf s).map bv)[j]?=some (bv ((natsOf s).getD j 0)):=by
  rw [List.getElem?_map,List.getD_eq_getElem?_getD,List.getElem?_eq_getElem (by rw [natsOf_len];exact hj)];rfl
 rw [h4] at hu
 injection hu with hu
 rw [← hu,h2]
 have h5:(⟨w.heap.size,0,none⟩:Addr).add j=⟨w.heap.size,j,none⟩:=by unfold Addr.add;split <;> simp_all
 rw [h5,h1,h3];rfl
theorem text_any (s:ByteArray) (w:World) (hs:s.size≤maxLen) :
 Calls Tryz.prog 88 #[.string s] w fun e w'=>e = .returned (.int .u64 (textN (natsOf s):Nat))∧Below w.heap.size w w':=by
 obtain⟨n,en⟩:∃n,s.size=n:=⟨_,rfl⟩
 have hl:=natsOf_len s
 rw [en] at hl
 unfold maxLen at hs
 have kc:=fun W:World=>Lib.run_convert_string_bytes (P:=Tryz.prog) W 9 77 5 s Tryz.underlying9 Tryz.underlying77 Tryz.underlying5
 go_enter Tryz.func88,Tryz.ntmps88
 go_wp2
 clear kc
 have hB:=bytesWorld_bel w 5 s
 have hR:=bytesWorld_reads w 5 s
 revert hB hR
 generalize Lib.bytesWorld w 5 s=W1
 intro hB hR
 rw [en] at hR
 have HR:=Lh hR
 have HB:=Lh hB
 clear hB hR
 go_loop [3,5,9] (fun vc vb vi=>∃k:Nat,k≤n∧vi = .int .i64 k∧vc = .int .u64 (txtS 14695981039346656037 ((natsOf s).take k):Nat)) (fun _ _ vi=>n - (intOf vi).toNat)
 case atStart=>exact⟨0,by omega,rfl,rfl⟩
 case round =>
  obtain⟨k,hk,rfl,rfl⟩:=hrel
  have c1:=txtS_lt ((natsOf s).take k) 14695981039346656037 (by decide)
  obtain⟨c,ec⟩:∃c,txtS 14695981039346656037 ((natsOf s).take k)=c:=⟨_,rfl⟩
  by_cases hlt:k<n
  · obtain⟨ad,had,hbl,hcell⟩:=HR.out.byteD hlt
    injection had with had
    subst had
    have h5:(⟨w.heap.size,0,none⟩:Addr).add k=⟨w.heap.size,k,none⟩:=by unfold Addr.add;split <;> simp_all
    rw [h5] at hcell
    clear h5
    have e1:=txtS_take 14695981039346656037 (natsOf s) k (by omega)
    have x1:=natsOf_lt s k
    rw [ec] at c1 e1 ⊢
    obtain⟨x,ex⟩:∃x,(natsOf s).getD k 0=x:=⟨_,rfl⟩
    rw [ex] at e1 x1 hcell
    obtain⟨d,q1,q2⟩:=txt_eqs c x c1 x1
    obtain⟨y,ey⟩:∃y,txS c x=y:=⟨_,rfl⟩
    rw [ey] at q2 e1
    have E1:=Lh e1
    clear e1 ec ex ey
    go_wp2
    exact⟨⟨k+1,by omega,by go_num,by rw [E1.out]⟩,by simp [intOf];omega⟩
  · obtain rfl:k=n:=by omega
    rw [List.take_of_length_le (by omega)] at c1 ec ⊢
    have EC:=Lh ec
    rw [ec] at c1 ⊢
    clear ec
    go_wp2_with fail
    refine (mix_any c _ c1).mono ?_
    rintro e w' ⟨rfl,rfl⟩
    go_wp2
    go_ret
    exact⟨by unfold textN;rw [EC.out];rfl,HB.out⟩
end Go.Proofs.YtdoneomahlfkbaaGreat
end
section
namespace Go.Proofs.YtdoneomahlfkbaaGreat
open Go.RowKit
theorem Reads.first {w:World} {B n:Nat} {A:Option Addr} {xs:List Value} (h:Reads w B 1 A n xs) {k:Nat} (hk:k≤n):Reads w B 1 A k (xs.take k):=by
 have hl:xs.length=n:=by simpa using h.1
 refine⟨by rw [List.length_take];omega,fun h0=>?_⟩
 obtain⟨ad,rfl,hb,hc⟩:=h.2 (by omega)
 refine⟨ad,rfl,hb,fun j u hu=>hc j u ?_⟩
 rcases Nat.lt_or_ge j k with hj | hj
 · rw [List.getElem?_take_of_lt hj] at hu;exact hu
 · rw [List.getElem?_eq_none (by rw [List.length_take];omega)] at hu;cases hu
theorem wp_region_class {P:Program} {id:Nat} {Q:Exit→Act→World→Prop} {a:Act} {w:World} {l:List Oper} (C:World→Prop) (hm:P.follows .mixedOrders=true) (hB:Region.lexB .any l.toArray=true)
 (hC:C { w with drawn:=w.drawn+1 }) (h:wpQuiet P l.toArray C (fun a'=>∀w',C w'→Q .normal a' w') l a):(Code.region id l.toArray true).wp P Q a w :=
 wp_region_quiet (C:=C) hm hB hC (by simpa using h)
end Go.Proofs.YtdoneomahlfkbaaGreat
end
section
namespace Go.Proofs.YtdoneomahlfkbaaGreat
open Go.RowKit StrMath
def I64s (xs:List Int):Prop:=∀x ∈ xs,-9223372036854775808≤x∧x≤9223372036854775807
theorem I64s.getD {xs:List Int} (h:I64s xs) (k:Nat) : -9223372036854775808≤xs.getD k 0∧xs.getD k 0≤9223372036854775807:=by
 rw [List.getD_eq_getElem?_getD]
 cases e:xs[k]? with
 | none=>simp
 | some x=>exact h x (List.mem_of_getElem? e)
theorem I64s.wf {xs:List Int} (h:I64s xs) (k:Nat):Lit.wf (.int .i64 (xs.getD k 0)):=by
 have:=h.getD k
 generalize xs.getD k 0=v at this
 simp only [Lit.wf,IntKind.min,IntKind.max,IntKind.signed,IntKind.bits]
 simp
 omega
theorem Ints.i64 {w:World} {A:Option Addr} {len cap:Nat} {zs:List Int} (h:Ints .i64 w A len cap zs) :
 I64s zs∧zs.length=len∧Reads w w.heap.size 1 A len (zs.map iv)∧len≤cap∧cap≤maxLen:=by
 obtain⟨hr,hw,hl,hc,hm⟩:=h
 refine⟨fun z hz=>by simpa [Lit.wf,IntKind.min,IntKind.max,IntKind.signed,IntKind.bits] using hw z hz,by simpa using hl,hr,hc,hm⟩
end Go.Proofs.YtdoneomahlfkbaaGreat
end
section
namespace Go.Proofs.YtdoneomahlfkbaaGreat
open Go.RowKit StrMath
theorem wf_small {x:Int} (h1 : -1000000000≤x) (h2:x≤1000000000):Lit.wf (.int .i64 x):=by
 simp only [Lit.wf,IntKind.min,IntKind.max,IntKind.signed,IntKind.bits]
 simp
 omega
end Go.Proofs.YtdoneomahlfkbaaGreat
end
section
namespace Go.Proofs.YtdoneomahlfkbaaGreat.PlMath
abbrev Mem:=Int×Int
def chkL:List Mem→Int→Bool
 | [],_=>true
 | x :: xs,last=>decide (last<x.1∧x.1≤32∧0≤x.2∧x.2≤65535) && chkL xs x.1
def chk (ms:List Mem):Bool:=decide (ms.length≤32) && chkL ms 0
def wts (ms:List Mem):Nat:=(ms.filter fun x=>decide (0<x.2)).length
def Up (l:List Mem):Prop:=l.Pairwise (fun a b=>a.1<b.1)∧∀x ∈ l,1≤x.1∧x.1≤32∧0≤x.2∧x.2≤65535
theorem chkL_up (l:List Mem):∀last,0≤last→chkL l last=true→Up l∧∀x ∈ l,last<x.1:=by
 induction l with
 | nil=>intro last _ _;exact⟨⟨List.Pairwise.nil,fun x hx=>by cases hx⟩,fun x hx=>by cases hx⟩
 | cons a l ih =>
   intro last h0 h
   rw [chkL,Bool.and_eq_true,decide_eq_true_eq] at h
   obtain⟨⟨h1,h2,h3,h4⟩,h5⟩:=h
   obtain⟨⟨u1,u2⟩,u3⟩:=ih a.1 (by omega) h5
   refine⟨⟨List.pairwise_cons.2 ⟨u3,u1⟩,fun x hx=>?_⟩,fun x hx=>?_⟩
   · rcases List.mem_cons.1 hx with rfl | hx
     · exact⟨by omega,h2,h3,h4⟩
     · exact u2 x hx
   · rcases List.mem_cons.1 hx with rfl | hx
     · exact h1
     · have:=u3 x hx;omega
theorem chk_up {ms:List Mem} (h:chk ms=true):Up ms∧ms.length≤32:=by
 unfold chk at h
 rw [Bool.and_eq_true,decide_eq_true_eq] at h
 exact⟨(chkL_up ms 0 (by omega) h.2).1,h.1⟩
theorem Up.filter {l:List Mem} (h:Up l) (p:Mem→Bool):Up (l.filter p) :=
 ⟨h.1.filter p,fun x hx=>h.2 x (List.mem_filter.1 hx).1⟩
theorem Up.inj {l:List Mem} (h:Up l) {x y:Mem} (hx:x ∈ l) (hy:y ∈ l) (e:x.1=y.1):x=y:=by
 obtain⟨h,hz⟩:=h
 clear hz
 induction l with
 | nil=>cases hx
 | cons a l ih =>
   obtain⟨h1,h2⟩:=List.pairwise_cons.1 h
   rcases List.mem_cons.1 hx with ex | hx'
   · rcases List.mem_cons.1 hy with ey | hy'
     · rw [ex,ey]
     · have:=h1 y hy';rw [← ex] at this;omega
   · rcases List.mem_cons.1 hy with ey | hy'
     · have:=h1 x hx';rw [← ey] at this;omega
     · exact ih hx' hy' h2
theorem Up.ext {l l':List Mem} (h:l.Pairwise (fun a b=>a.1<b.1)) (h':l'.Pairwise (fun a b=>a.1<b.1)) (e:∀x,x ∈ l↔x ∈ l'):l=l':=by
 induction l generalizing l' with
 | nil=>exact (List.eq_nil_iff_forall_not_mem.2 fun x hx=>by have:=(e x).2 hx;cases this).symm
 | cons a l ih =>
   cases l' with
   | nil=>have:=(e a).1 (List.mem_cons_self ..);cases this
   | cons b l' =>
     obtain⟨h1,h2⟩:=List.pairwise_cons.1 h
     obtain⟨g1,g2⟩:=List.pairwise_cons.1 h'
     have ab:a=b:=by
      rcases List.mem_cons.1 ((e a).1 (List.mem_cons_self ..)) with h3 | h3
      · exact h3
      · rcases List.mem_cons.1 ((e b).2 (List.mem_cons_self ..)) with h4 | h4
        · exact h4.symm
        · have:=h1 b h4;have:=g1 a h3;omega
     subst ab
     congr 1
     refine ih h2 g2 fun x=>⟨fun hx=>?_,fun hx=>?_⟩
     · rcases List.mem_cons.1 ((e x).1 (List.mem_cons_of_mem _ hx)) with h3 | h3
       · have:=h1 x hx;rw [h3] at this;omega
       · exact h3
     · rcases List.mem_cons.1 ((e x).2 (List.mem_cons_of_mem _ hx)) with h3 | h3
       · have:=g1 x hx;rw [h3] at this;omega
       · exact h3
section
variable (c:Nat→Mem→Int)
def stp (r:Nat) (acc:Int×Int) (x:Mem):Int×Int:=if x.2=0 then acc else if acc.1=0∨c r x<acc.2 then (x.1,c r x) else acc
def bst (r:Nat) (l:List Mem):Int×Int:=l.foldl (stp c r) (0,0)
def sel (r:Nat) (l:List Mem):Int:=(bst c r l).1
def picks (ms:List Mem):Nat→List Int
 | 0=>[]
 | r+1=>picks ms r ++ [sel c r (ms.filter fun x => !(picks ms r).contains x.1)]
def remL (ms:List Mem) (r:Nat):List Mem:=ms.filter fun x => !(picks c ms r).contains x.1
def Lt (r:Nat) (x y:Mem):Prop:=c r x<c r y∨(c r x=c r y∧x.1≤y.1)
def Best (r:Nat) (l:List Mem) (x:Mem):Prop:=x ∈ l∧x.2≠0∧∀y ∈ l,y.2≠0→Lt c r x y
def Inv (r:Nat) (s:List Mem) (acc:Int×Int):Prop:=((∀x ∈ s,x.2=0)∧acc=(0,0))∨∃x,Best c r s x∧acc=(x.1,c r x)
variable {c}
theorem inv_step {r:Nat} {s:List Mem} {acc:Int×Int} {a:Mem} (h:Inv c r s acc) (hlt:∀x ∈ s,x.1<a.1) (hpos:∀x ∈ s,1≤x.1):Inv c r (s ++ [a]) (stp c r acc a):=by
 unfold stp
 by_cases ha:a.2=0
 · rw [if_pos ha]
   rcases h with ⟨h1,h2⟩ | ⟨x,⟨b1,b2,b3⟩,h2⟩
   · refine .inl ⟨fun x hx=>?_,h2⟩
     rcases List.mem_append.1 hx with hx | hx
     · exact h1 x hx
     · rw [List.mem_singleton.1 hx];exact ha
   · refine .inr ⟨x,⟨List.mem_append_left _ b1,b2,fun y hy h0=>?_⟩,h2⟩
     rcases List.mem_append.1 hy with hy | hy
     · exact b3 y hy h0
     · rw [List.mem_singleton.1 hy] at h0;exact absurd ha h0
 · rw [if_neg ha]
   rcases h with ⟨h1,h2⟩ | ⟨x,⟨b1,b2,b3⟩,h2⟩
   · rw [h2,if_pos (.inl rfl)]
     refine .inr ⟨a,⟨List.mem_append_right _ (List.mem_singleton.2 rfl),ha,fun y hy h0=>?_⟩,rfl⟩
     rcases List.mem_append.1 hy with hy | hy
     · exact absurd (h1 y hy) h0
     · rw [List.mem_singleton.1 hy];exact .inr ⟨rfl,Int.le_refl _⟩
   · rw [h2]
     have hx1:=hpos x b1
     by_cases hc:c r a<c r x
     · rw [if_pos (.inr hc)]
       refine .inr ⟨a,⟨List.mem_append_right _ (List.mem_singleton.2 rfl),ha,fun y hy h0=>?_⟩,rfl⟩
       rcases List.mem_append.1 hy with hy | hy
       · have:=b3 y hy h0;unfold Lt at this ⊢;omega
       · rw [List.mem_singleton.1 hy];exact .inr ⟨rfl,Int.le_refl _⟩
     · rw [if_neg (by simp only;omega)]
       refine .inr ⟨x,⟨List.mem_append_left _ b1,b2,fun y hy h0=>?_⟩,rfl⟩
       rcases List.mem_append.1 hy with hy | hy
       · exact b3 y hy h0
       · rw [List.mem_singleton.1 hy]
         have:=hlt x b1
         unfold Lt;omega
theorem inv_fold (r:Nat) (l:List Mem):∀ (s:List Mem) (acc:Int×Int),(s ++ l).Pairwise (fun a b=>a.1<b.1)→(∀x ∈ s ++ l,1≤x.1)→Inv c r s acc→Inv c r (s ++ l) (l.foldl (stp c r) acc):=by
 induction l with
 | nil=>intro s acc _ _ h;simpa using h
 | cons a l ih =>
   intro s acc hp h1 h
   rw [List.foldl_cons,show s ++ a :: l=(s ++ [a]) ++ l from by simp]
   refine ih (s ++ [a]) _ (by simpa using hp) (by simpa using h1) (inv_step h ?_ fun x hx=>h1 x (List.mem_append_left _ hx))
   intro x hx
   exact (List.pairwise_append.1 hp).2.2 x hx a (List.mem_cons_self ..)
theorem bst_spec (r:Nat) {l:List Mem} (h:Up l):Inv c r l (bst c r l):=by
 have:=inv_fold (c:=c) r l [] (0,0) (by simpa using h.1) (fun x hx=>(h.2 x (by simpa using hx)).1) (.inl ⟨fun x hx=>by (cases hx),rfl⟩)
 simpa [bst] using this
theorem Best.uniq {r:Nat} {l:List Mem} (h:Up l) {x y:Mem} (hx:Best c r l x) (hy:Best c r l y):x=y:=by
 have h1:=hx.2.2 y hy.1 hy.2.1
 have h2:=hy.2.2 x hx.1 hx.2.1
 unfold Lt at h1 h2
 exact h.inj hx.1 hy.1 (by omega)
theorem best_of {r:Nat} {l:List Mem} (h:Up l) {x:Mem} (hx:x ∈ l) (h0:x.2≠0):∃y,Best c r l y∧bst c r l=(y.1,c r y):=by
 rcases bst_spec (c:=c) r h with ⟨h1,_⟩ | h1
 · exact absurd (h1 x hx) h0
 · exact h1
theorem picks_succ (ms:List Mem) (r:Nat):picks c ms (r+1)=picks c ms r ++ [sel c r (remL c ms r)]:=rfl
theorem remL_zero (ms:List Mem):remL c ms 0=ms:=by unfold remL picks;simp
theorem remL_up {ms:List Mem} (h:Up ms) (r:Nat):Up (remL c ms r):=h.filter _
theorem remL_succ (ms:List Mem) (r:Nat):remL c ms (r+1)=(remL c ms r).filter fun x=>decide (x.1≠sel c r (remL c ms r)):=by
 show ms.filter _=(ms.filter _).filter _
 rw [List.filter_filter]
 refine List.filter_congr fun x _=>?_
 rw [picks_succ]
 by_cases h1:x.1 ∈ picks c ms r <;> by_cases h2:x.1=sel c r (remL c ms r) <;> simp [h1,h2]
theorem picks_length (ms:List Mem) (r:Nat):(picks c ms r).length=r:=by
 induction r with
 | zero=>rfl
 | succ r ih=>rw [picks_succ,List.length_append,ih];rfl
theorem picks_take (ms:List Mem) (n k:Nat) (h:k≤n):(picks c ms n).take k=picks c ms k:=by
 induction n with
 | zero=>obtain rfl:k=0:=by omega
         rfl
 | succ n ih =>
   rcases Nat.lt_or_ge n k with h1 | h1
   · obtain rfl:k=n+1:=by omega
     rw [List.take_of_length_le (by rw [picks_length];omega)]
   · rw [picks_succ,List.take_append_of_le_length (by rw [picks_length];omega),ih h1]
theorem wts_cut {l:List Mem} (h:Up l) (s:Int):wts l≤wts (l.filter fun x=>decide (x.1≠s))+1:=by
 obtain⟨h,hz⟩:=h
 clear hz
 induction l with
 | nil=>simp [wts]
 | cons a l ih =>
   obtain⟨h1,h2⟩:=List.pairwise_cons.1 h
   have:=ih h2
   by_cases ha:a.1=s
   · have e:(l.filter fun x=>decide (x.1≠s))=l:=List.filter_eq_self.2 fun x hx=>by have:=h1 x hx;simp;omega
     rw [List.filter_cons_of_neg (by simpa using ha),e]
     unfold wts
     rw [List.filter_cons]
     split <;> simp
   · rw [List.filter_cons_of_pos (by simpa using ha)]
     unfold wts at this ⊢
     rw [List.filter_cons,List.filter_cons]
     split
     · rw [List.length_cons,List.length_cons];omega
     · exact this
theorem wts_rem {ms:List Mem} (h:Up ms) (r:Nat):wts ms≤wts (remL c ms r)+r:=by
 induction r with
 | zero=>rw [remL_zero];omega
 | succ r ih =>
   have:=wts_cut (remL_up (c:=c) h r) (sel c r (remL c ms r))
   rw [remL_succ];omega
theorem best_at {ms:List Mem} (h:Up ms) {r n:Nat} (hn:n≤wts ms) (hr:r<n):∃x,Best c r (remL c ms r) x∧bst c r (remL c ms r)=(x.1,c r x)∧sel c r (remL c ms r)=x.1:=by
 have h1:=wts_rem (c:=c) h r
 have h2:0<wts (remL c ms r):=by omega
 obtain⟨x,hx⟩:=List.exists_mem_of_length_pos h2
 have hm:=List.mem_filter.1 hx
 obtain⟨y,hy,e⟩:=best_of (c:=c) (r:=r) (remL_up h r) hm.1 (by have:=hm.2;simp at this;omega)
 exact⟨y,hy,e,by unfold sel;rw [e]⟩
theorem picks_get (ms:List Mem) (n k:Nat) (h:k<n):(picks c ms n)[k]?=some (sel c k (remL c ms k)):=by
 have h1:=picks_take (c:=c) ms n (k+1) h
 have h2:((picks c ms n).take (k+1))[k]?=(picks c ms n)[k]?:=List.getElem?_take_of_lt (by omega)
 rw [← h2,h1,picks_succ,List.getElem?_append_right (by rw [picks_length];omega),picks_length]
 simp
theorem mem_picks {ms:List Mem} (h:Up ms) {n:Nat} (hn:n≤wts ms) (r:Nat) (hr:r≤n) (i:Int):i ∈ picks c ms r↔(∃x ∈ ms,x.1=i)∧¬ ∃x ∈ remL c ms r,x.1=i:=by
 constructor
 · intro hi
   refine⟨?_,?_⟩
   · obtain⟨k,hk,e⟩:=List.mem_iff_getElem.1 hi
     rw [picks_length] at hk
     obtain⟨x,hx,_,e2⟩:=best_at (c:=c) h hn (show k<n by omega)
     have h3:=picks_get (c:=c) ms r k hk
     rw [List.getElem?_eq_getElem (by rw [picks_length];exact hk),e,e2] at h3
     exact⟨x,(List.mem_filter.1 hx.1).1,by injection h3 with h3;exact h3.symm⟩
   · rintro⟨x,hx,rfl⟩
     have:=(List.mem_filter.1 hx).2
     simp at this
     exact this hi
 · rintro⟨⟨x,hx,rfl⟩,h2⟩
   rcases Classical.em (x.1 ∈ picks c ms r) with h3 | h3
   · exact h3
   · exact absurd ⟨x,List.mem_filter.2 ⟨hx,by simpa using h3⟩,rfl⟩ h2
end
section
variable {c:Nat→Mem→Int}
def put (i w:Int) (x:Mem):Mem:=if x.1=i then (i,w) else x
theorem put_fst (i w:Int) (x:Mem):(put i w x).1=x.1:=by unfold put;split <;> simp_all
def StA (i w:Int) (l l':List Mem):Prop:=l'=l.map (put i w)
def StB (i:Int) (l l':List Mem):Prop:=(∀y ∈ l',y.1≠i)∧∃a b,a ∈ l∧b ∈ l'∧a.1≠b.1∧∀y,(y ∈ l∧y.1≠a.1)↔(y ∈ l'∧y.1≠b.1)
theorem map_put_id {i w:Int} {l:List Mem} (h:∀y ∈ l,y.1≠i):l.map (put i w)=l:=by
 conv=>rhs;rw [← List.map_id l]
 exact List.map_congr_left fun x hx=>by unfold put;rw [if_neg (h x hx)];rfl
theorem filter_map_put (i w s:Int) (l:List Mem):(l.map (put i w)).filter (fun x=>decide (x.1≠s))=(l.filter fun x=>decide (x.1≠s)).map (put i w):=by
 rw [List.filter_map]
 congr 1
 refine List.filter_congr fun x _=>?_
 show decide ((put i w x).1≠s)=_
 rw [put_fst]
theorem choice_a {r:Nat} {i w:Int} {l:List Mem} (hU:Up l) {p q:Mem} (hp:Best c r l p) (hq:Best c r (l.map (put i w)) q)
 (hw:∀x ∈ l,x.1=i→x.2≤w) (hc:∀x ∈ l,x.1=i→x.2≠0→c r (i,w)≤c r x):q.1=p.1∨(q.1=i∧p.1≠i):=by
 by_cases e:q.1=i
 · by_cases e2:p.1=i
   · left;rw [e,e2]
   · exact .inr ⟨e,e2⟩
 · left
   obtain⟨z,hz,ez⟩:=List.mem_map.1 hq.1
   have hzi:z.1≠i:=by rw [← put_fst i w z,ez];exact e
   have ez':z=q:=by rw [← ez];unfold put;rw [if_neg hzi]
   subst ez'
   have h1:=hp.2.2 z hz hq.2.1
   by_cases e2:p.1=i
   · have hpm:put i w p=(i,w):=by unfold put;rw [if_pos e2]
     have h0:=hU.2 p hp.1
     have hpw:=hw p hp.1 e2
     have hp0:=hp.2.1
     have h2:=hq.2.2 (put i w p) (List.mem_map_of_mem hp.1) (by rw [hpm];show w≠0;omega)
     have h3:=hc p hp.1 e2 hp0
     rw [hpm] at h2
     unfold Lt at h1 h2
     simp only at h2
     omega
   · have h2:=hq.2.2 p (List.mem_map.2 ⟨p,hp.1,by unfold put;rw [if_neg e2]⟩) hp.2.1
     unfold Lt at h1 h2
     omega
theorem step_a {r:Nat} {i w:Int} {l l':List Mem} (h:StA i w l l') (hU:Up l) {p q:Mem} (hp:Best c r l p) (hq:Best c r l' q)
 (hw:∀x ∈ l,x.1=i→x.2≤w) (hc:∀x ∈ l,x.1=i→x.2≠0→c r (i,w)≤c r x) :
 StA i w (l.filter fun x=>decide (x.1≠p.1)) (l'.filter fun x=>decide (x.1≠q.1))∨StB i (l.filter fun x=>decide (x.1≠p.1)) (l'.filter fun x=>decide (x.1≠q.1)):=by
 unfold StA at h
 subst h
 rcases choice_a hU hp hq hw hc with e | ⟨e1,e2⟩
 · left;unfold StA;rw [e,filter_map_put]
 · right
   obtain⟨z,hz,ez⟩:=List.mem_map.1 hq.1
   have hzi:z.1=i:=by rw [← put_fst i w z,ez];exact e1
   refine⟨fun y hy=>?_,z,p,?_,?_,?_,?_⟩
   · have:=(List.mem_filter.1 hy).2
     rw [e1] at this
     simpa using this
   · exact List.mem_filter.2 ⟨hz,by simp;omega⟩
   · refine List.mem_filter.2 ⟨List.mem_map.2 ⟨p,hp.1,by unfold put;rw [if_neg e2]⟩,by simp;omega⟩
   · omega
   · intro y
     rw [List.mem_filter,List.mem_filter,e1,hzi]
     simp only [ne_eq,decide_eq_true_eq]
     constructor
     · rintro⟨⟨h1,h2⟩,h3⟩
       exact⟨⟨List.mem_map.2 ⟨y,h1,by unfold put;rw [if_neg h3]⟩,h3⟩,h2⟩
     · rintro⟨⟨h1,h2⟩,h3⟩
       obtain⟨u,hu,eu⟩:=List.mem_map.1 h1
       have hui:u.1≠i:=by rw [← put_fst i w u,eu];exact h2
       have:u=y:=by rw [← eu];unfold put;rw [if_neg hui]
       subst this
       exact⟨⟨hu,h3⟩,h2⟩
theorem step_b {r:Nat} {i w:Int} {l l':List Mem} (h:StB i l l') (hU:Up l) (hU':Up l') {p q:Mem} (hp:Best c r l p) (hq:Best c r l' q) :
 StA i w (l.filter fun x=>decide (x.1≠p.1)) (l'.filter fun x=>decide (x.1≠q.1))∨StB i (l.filter fun x=>decide (x.1≠p.1)) (l'.filter fun x=>decide (x.1≠q.1)):=by
 obtain⟨hi,a,b,ha,hb,hab,hiff⟩:=h
 have hi':∀y ∈ l'.filter (fun x=>decide (x.1≠q.1)),y.1≠i:=fun y hy=>hi y ((List.mem_filter.1 hy).1)
 by_cases e1:p.1=a.1
 · by_cases e2:q.1=b.1
   · left
     have e:(l'.filter fun x=>decide (x.1≠q.1))=(l.filter fun x=>decide (x.1≠p.1)):=by
      refine Up.ext (hU'.1.filter _) (hU.1.filter _) fun y=>?_
      rw [List.mem_filter,List.mem_filter,e1,e2]
      simp only [ne_eq,decide_eq_true_eq]
      exact (hiff y).symm
     unfold StA
     rw [e] at hi' ⊢
     exact (map_put_id hi').symm
   · right
     have hql:=(hiff q).2 ⟨hq.1,e2⟩
     refine⟨hi',q,b,List.mem_filter.2 ⟨hql.1,by have:=hql.2;simp;omega⟩,List.mem_filter.2 ⟨hb,by simp;omega⟩,e2,fun y=>?_⟩
     rw [List.mem_filter,List.mem_filter,e1]
     simp only [ne_eq,decide_eq_true_eq]
     have:=hiff y
     constructor
     · rintro⟨h1,h2⟩;have:=this.1 h1;exact⟨⟨this.1,h2⟩,this.2⟩
     · rintro⟨⟨h1,h2⟩,h3⟩;exact⟨this.2 ⟨h1,h3⟩,h2⟩
 · right
   have hpl:=(hiff p).1 ⟨hp.1,e1⟩
   by_cases e2:q.1=b.1
   · refine⟨hi',a,p,List.mem_filter.2 ⟨ha,by simp;omega⟩,List.mem_filter.2 ⟨hpl.1,by have:=hpl.2;simp;omega⟩,by omega,fun y=>?_⟩
     rw [List.mem_filter,List.mem_filter,e2]
     simp only [ne_eq,decide_eq_true_eq]
     have:=hiff y
     constructor
     · rintro⟨⟨h1,h2⟩,h3⟩;exact⟨this.1 ⟨h1,h3⟩,h2⟩
     · rintro⟨h1,h2⟩;have:=this.2 h1;exact⟨⟨this.1,h2⟩,this.2⟩
   · have hql:=(hiff q).2 ⟨hq.1,e2⟩
     have h1:=hp.2.2 q hql.1 hq.2.1
     have h2:=hq.2.2 p hpl.1 hp.2.1
     unfold Lt at h1 h2
     have e3:p.1=q.1:=by omega
     refine⟨hi',a,b,List.mem_filter.2 ⟨ha,by simp;omega⟩,List.mem_filter.2 ⟨hb,by simp;omega⟩,hab,fun y=>?_⟩
     rw [List.mem_filter,List.mem_filter,e3]
     simp only [ne_eq,decide_eq_true_eq]
     have:=hiff y
     constructor
     · rintro⟨⟨h1,h2⟩,h3⟩;have:=this.1 ⟨h1,h3⟩;exact⟨⟨this.1,h2⟩,this.2⟩
     · rintro⟨⟨h1,h2⟩,h3⟩;have:=this.2 ⟨h1,h3⟩;exact⟨⟨this.1,h2⟩,this.2⟩
theorem up_put {ms:List Mem} (h:Up ms) {i w:Int} (hw:0≤w∧w≤65535):Up (ms.map (put i w)):=by
 refine⟨List.pairwise_map.2 (h.1.imp fun {a b} hab=>by rw [put_fst,put_fst];exact hab),fun x hx=>?_⟩
 obtain⟨y,hy,rfl⟩:=List.mem_map.1 hx
 have:=h.2 y hy
 unfold put
 split
 · rename_i e;exact⟨by rw [← e];exact this.1,by rw [← e];exact this.2.1,hw.1,hw.2⟩
 · exact this
theorem states {ms:List Mem} (h:Up ms) {i w:Int} (hw0:0≤w∧w≤65535) {n:Nat} (hn:n≤wts ms) (hn':n≤wts (ms.map (put i w)))
 (hw:∀x ∈ ms,x.1=i→x.2≤w) (hc:∀r,∀x ∈ ms,x.1=i→x.2≠0→c r (i,w)≤c r x) (r:Nat) (hr:r≤n) :
 StA i w (remL c ms r) (remL c (ms.map (put i w)) r)∨StB i (remL c ms r) (remL c (ms.map (put i w)) r):=by
 have hU':=up_put h (i:=i) hw0
 induction r with
 | zero=>rw [remL_zero,remL_zero];exact .inl rfl
 | succ r ih =>
   obtain⟨p,hp,_,ep⟩:=best_at (c:=c) h hn (show r<n by omega)
   obtain⟨q,hq,_,eq⟩:=best_at (c:=c) hU' hn' (show r<n by omega)
   rw [remL_succ,remL_succ,ep,eq]
   rcases ih (by omega) with ih | ih
   · exact step_a ih (remL_up h r) hp hq (fun x hx=>hw x ((List.mem_filter.1 hx).1)) (fun x hx=>hc r x ((List.mem_filter.1 hx).1))
   · exact step_b ih (remL_up h r) (remL_up hU' r) hp hq
end
end Go.Proofs.YtdoneomahlfkbaaGreat.PlMath
end
section
namespace Go.Proofs.YtdoneomahlfkbaaGreat
open Go.RowKit StrMath PlMath
theorem mcells_get (ms:List Mem):∀k,k<ms.length→(mcells ms)[k*2]?=some (iv (ms.getD k (0,0)).1)∧(mcells ms)[k*2+1]?=some (iv (ms.getD k (0,0)).2):=by
 unfold mcells
 induction ms with
 | nil=>intro k h;simp at h
 | cons a l ih =>
   intro k h
   rw [List.flatMap_cons]
   cases k with
   | zero=>exact⟨rfl,rfl⟩
   | succ k =>
     have:=ih k (by simpa using h)
     rw [show (k+1)*2=k*2+2 from by omega,show k*2+2+1=k*2+1+2 from by omega]
     simpa using this
theorem add_next (a:Addr) (i:Nat):a.add (i+1)={ block:=(a.add i).block,off:=(a.add i).off+1 }:=by
 unfold Addr.add
 by_cases h:i=0
 · subst h;simp
 · simp [h];omega
theorem Reads.mem {w:World} {B n:Nat} {A:Option Addr} {ms:List Mem} (h:Reads w B 2 A n (mcells ms)) {k:Nat} (hk:k<n) :
 ∃ad,A=some ad∧ad.block<B∧w.cell? (ad.add (k*2))=some (.int .i64 (ms.getD k (0,0)).1)∧w.cell? { block:=(ad.add (k*2)).block,off:=(ad.add (k*2)).off+1 }=some (.int .i64 (ms.getD k (0,0)).2):=by
 have hl:=h.1
 rw [mcells_len] at hl
 obtain⟨ad,e,hb,hc⟩:=h.2 (by omega)
 have hg:=mcells_get ms k (by omega)
 exact⟨ad,e,hb,hc _ _ hg.1,by rw [← add_next];exact hc _ _ hg.2⟩
def M64 (ms:List Mem):Prop:=∀x ∈ ms,(-9223372036854775808≤x.1∧x.1≤9223372036854775807)∧(-9223372036854775808≤x.2∧x.2≤9223372036854775807)
theorem M64.get {ms:List Mem} (h:M64 ms) {k:Nat} (hk:k<ms.length):(-9223372036854775808≤(ms.getD k (0,0)).1∧(ms.getD k (0,0)).1≤9223372036854775807)∧(-9223372036854775808≤(ms.getD k (0,0)).2∧(ms.getD k (0,0)).2≤9223372036854775807):=by
 rw [List.getD_eq_getElem?_getD,List.getElem?_eq_getElem hk]
 exact h _ (List.getElem_mem hk)
def mapV (e:Nat) (A:Option Addr) (n cap:Nat):Value := .agg #[.int .u64 (e:Int),.slice A n cap]
def errM (b:Bool):Int:=if b then 0 else 110
theorem chk_short {ms:List Mem} (h:ms.length≤32):chk ms=chkL ms 0:=by unfold chk;rw [decide_eq_true h];rfl
theorem chkL_drop (ms:List Mem) (k:Nat) (h:k<ms.length) (last:Int) :
 chkL (ms.drop k) last=(decide (last<(ms.getD k (0,0)).1∧(ms.getD k (0,0)).1≤32∧0≤(ms.getD k (0,0)).2∧(ms.getD k (0,0)).2≤65535) && chkL (ms.drop (k+1)) (ms.getD k (0,0)).1):=by
 rw [List.drop_eq_getElem_cons h,chkL,List.getD_eq_getElem?_getD,List.getElem?_eq_getElem h]
 rfl
theorem check_any (e:Nat) (A:Option Addr) (n cap:Nat) (ms:List Mem) (w:World) (hr:Reads w w.heap.size 2 A n (mcells ms)) (h64:M64 ms) (hc:n≤cap) (hm:cap≤maxLen) :
 Calls Tryz.prog 95 #[mapV e A n cap] w fun e w'=>e = .returned (.int .i64 (errM (chk ms)))∧Below w.heap.size w w':=by
 unfold maxLen at hm
 have hl:ms.length=n:=by have:=hr.1;rw [mcells_len] at this;omega
 have HR:=Lh hr
 clear hr
 unfold mapV
 by_cases h32:32<n
 · have d1:decide (32<n)=true:=decide_eq_true h32
   have d2:decide ((32:Int)<(n:Int))=true:=decide_eq_true (by omega)
   have e0:errM (chk ms)=110:=by unfold errM chk;rw [decide_eq_false (by omega)];rfl
   rw [e0]
   clear e0 hl
   go_enter Tryz.func95,Tryz.ntmps95
   go_wp2
   go_ret
   exact⟨rfl,(Below.refl _ _).alloc (Nat.le_refl _) _⟩
 · have d1:decide (32<n)=false:=decide_eq_false h32
   have d2:decide ((32:Int)<(n:Int))=false:=decide_eq_false (by omega)
   rw [chk_short (by omega)]
   have HL:=Lh hl
   clear hl
   go_enter Tryz.func95,Tryz.ntmps95
   go_wp2
   go_loopw [3,5,13] (fun vl _ vi wr=>∃k:Nat,∃last:Int,k≤n∧vi = .int .i64 k∧vl = .int .i64 last∧Hid (chkL ms 0=chkL (ms.drop k) last)∧Below w.heap.size w wr∧Hid (wr.cell? ⟨w.heap.size,1,none⟩=some (.slice A n cap))∧w.heap.size<wr.heap.size) (fun _ _ vi _=>n - (intOf vi).toNat)
   case atStart=>exact⟨0,0,by omega,rfl,rfl,Lh rfl,(Below.refl _ _).alloc (Nat.le_refl _) _,Lh (by simp),by simp⟩
   case round =>
    obtain⟨k,last,hk,rfl,rfl,hq,hb,hcb,hsz⟩:=hrel
    have hcb':=hcb.out
    by_cases hlt:k<n
    · obtain⟨ad,rfl,hbl,hc1,hc2⟩:=(HR.out.below hb).mem hlt
      have h6:=h64.get (k:=k) (by have:=HL.out;omega)
      have hd:=chkL_drop ms k (by have:=HL.out;omega) last
      obtain⟨x,ex⟩:∃x,ms.getD k (0,0)=x:=⟨_,rfl⟩
      rw [ex] at hc1 hc2 h6 hd
      obtain⟨id,wt⟩:=x
      simp only at hc1 hc2 h6 hd
      clear ex
      have hb2:=hb.alloc (Nat.le_of_lt hsz) (.cells #[.int .i64 id,.int .i64 wt] 67)
      by_cases g:last<id∧id≤32∧0≤wt∧wt≤65535
      · rw [decide_eq_true g,Bool.true_and] at hd
        have Q:=Lh (hq.out.trans hd)
        have e1:decide (id≤last)=false:=decide_eq_false (by omega)
        have e2:decide (32<id)=false:=decide_eq_false (by omega)
        have e3:decide (wt<0)=false:=decide_eq_false (by omega)
        have e4:decide (65535<wt)=false:=decide_eq_false (by omega)
        clear hd hq
        go_wp2
        exact⟨⟨k+1,id,by omega,by go_num,rfl,Q,hb2,Lh (by simp [World.cell?_alloc_lt,hsz,hcb']),by simp;omega⟩,by simp [intOf];omega⟩
      · rw [decide_eq_false g,Bool.false_and] at hd
        have e0:errM (chkL ms 0)=110:=by rw [hq.out,hd];rfl
        have E0:=Lh e0
        have aux:decide (id≤last)=true∨(decide (id≤last)=false∧decide (32<id)=true)∨(decide (id≤last)=false∧decide (32<id)=false∧decide (wt<0)=true) ∨
         (decide (id≤last)=false∧decide (32<id)=false∧decide (wt<0)=false∧decide (65535<wt)=true):=by
         simp only [decide_eq_true_eq,decide_eq_false_iff_not];omega
        clear hd hq e0 g
        rcases aux with e1 | ⟨e1,e2⟩ | ⟨e1,e2,e3⟩ | ⟨e1,e2,e3,e4⟩
        all_goals
         go_wp2
         go_ret
         exact⟨ret_int E0.out.symm,hb2⟩
    · have e0:errM (chkL ms 0)=0:=by rw [hq.out,List.drop_eq_nil_of_le (by have:=HL.out;omega)];rfl
      have E0:=Lh e0
      clear hq e0
      go_wp2
      go_ret
      exact⟨ret_int E0.out.symm,hb⟩
end Go.Proofs.YtdoneomahlfkbaaGreat
end
section
namespace Go.Proofs.YtdoneomahlfkbaaGreat
open Go.RowKit StrMath PlMath
theorem wts_take (ms:List Mem) (k:Nat) (h:k<ms.length):wts (ms.take (k+1))=wts (ms.take k)+if 0<(ms.getD k (0,0)).2 then 1 else 0:=by
 unfold wts
 rw [List.take_succ_eq_append_getElem h,List.filter_append,List.length_append,List.getD_eq_getElem?_getD,List.getElem?_eq_getElem h]
 simp only [Option.getD_some]
 congr 1
 rw [List.filter_cons]
 split <;> simp_all
theorem wts_le (ms:List Mem):wts ms≤ms.length:=List.length_filter_le _ _
theorem pos_any (id wt:Int) (w:World):Calls Tryz.prog 129 #[.agg #[.int .i64 id,.int .i64 wt]] w fun e w'=>e = .returned (.bool (decide (0<wt)))∧Below w.heap.size w w':=by
 go_enter Tryz.func129,Tryz.ntmps129
 go_wp2
 go_ret
 exact⟨rfl,(Below.refl _ _).alloc (Nat.le_refl _) _⟩
theorem count_pos (e:Nat) (A:Option Addr) (n cap:Nat) (ms:List Mem) (w:World) (hr:Reads w w.heap.size 2 A n (mcells ms)) (hc:n≤cap) (hm:cap≤maxLen) :
 Calls Tryz.prog 128 #[mapV e A n cap,.func (.func 129) #[] #[]] w fun e w'=>e = .returned (.int .i64 (wts ms:Nat))∧Below w.heap.size w w':=by
 unfold maxLen at hm
 have hl:ms.length=n:=by have:=hr.1;rw [mcells_len] at this;omega
 have HR:=Lh hr
 have HL:=Lh hl
 clear hr hl
 unfold mapV
 go_enter Tryz.func128,Tryz.ntmps128
 go_wp2
 go_loopw [5,7,11] (fun vc _ vi wr=>∃k:Nat,k≤n∧vi = .int .i64 k∧vc = .int .i64 (wts (ms.take k):Nat)∧Below w.heap.size w wr∧w.heap.size<wr.heap.size) (fun _ _ vi _=>n - (intOf vi).toNat)
 case atStart=>exact⟨0,by omega,rfl,rfl,(Below.refl _ _).alloc (Nat.le_refl _) _,by simp⟩
 case round =>
  obtain⟨k,hk,rfl,rfl,hb,hsz⟩:=hrel
  have hwl:=wts_le (ms.take k)
  rw [List.length_take] at hwl
  have hwk:wts (ms.take k)≤k:=by omega
  clear hwl
  by_cases hlt:k<n
  · obtain⟨ad,rfl,hbl,hc1,hc2⟩:=(HR.out.below hb).mem hlt
    have hd:=wts_take ms k (by have:=HL.out;omega)
    obtain⟨x,ex⟩:∃x,ms.getD k (0,0)=x:=⟨_,rfl⟩
    rw [ex] at hc1 hc2 hd
    obtain⟨id,wt⟩:=x
    simp only at hc1 hc2 hd
    clear ex
    have hb2:=hb.alloc (Nat.le_of_lt hsz) (.cells #[.int .i64 id,.int .i64 wt] 67)
    by_cases g:0<wt
    · rw [if_pos g] at hd
      have e1:decide (0<wt)=true:=decide_eq_true g
      generalize wts (ms.take k)=c at *
      have Q:=Lh hd
      clear hd
      go_wp2_with fail
      refine (pos_any id wt _).mono ?_
      rintro e w2 ⟨rfl,hb3⟩
      have hb4:Below w.heap.size w w2:=hb2.trans (hb3.mono hb2.size)
      have hs3:=hb3.size
      rw [e1]
      simp at hs3
      clear hb3
      go_wp2
      exact⟨⟨k+1,by omega,by go_num,by rw [Q.out];go_num,hb4,by omega⟩,by simp [intOf];omega⟩
    · rw [if_neg g] at hd
      have e1:decide (0<wt)=false:=decide_eq_false g
      generalize wts (ms.take k)=c at *
      have Q:=Lh hd
      clear hd
      go_wp2_with fail
      refine (pos_any id wt _).mono ?_
      rintro e w2 ⟨rfl,hb3⟩
      have hb4:Below w.heap.size w w2:=hb2.trans (hb3.mono hb2.size)
      have hs3:=hb3.size
      rw [e1]
      simp at hs3
      clear hb3
      go_wp2
      exact⟨⟨k+1,by omega,by go_num,by rw [Q.out];rfl,hb4,by omega⟩,by simp [intOf];omega⟩
  · obtain rfl:n=k:=by omega
    have e0:=congrArg wts (List.take_of_length_le (l:=ms) (i:=n) (by have:=HL.out;omega))
    have E0:=Lh e0
    clear e0
    go_wp2
    go_ret
    exact⟨ret_int (by rw [E0.out]),hb⟩
theorem weights_any (e:Nat) (A:Option Addr) (n cap:Nat) (ms:List Mem) (w:World) (hr:Reads w w.heap.size 2 A n (mcells ms)) (hc:n≤cap) (hm:cap≤maxLen) :
 Calls Tryz.prog 96 #[mapV e A n cap] w fun e w'=>e = .returned (.int .i64 (wts ms:Nat))∧Below w.heap.size w w':=by
 have HR:=Lh hr
 clear hr
 unfold mapV
 go_enter Tryz.func96,Tryz.ntmps96
 go_wp2_with fail
 refine (count_pos e A n cap ms _ ((HR.out.alloc (Nat.le_refl _) _).more (by simp)) hc hm).mono ?_
 rintro e w2 ⟨rfl,hb⟩
 go_wp2
 go_ret
 exact⟨rfl,((Below.refl _ _).alloc (Nat.le_refl _) _).trans (hb.mono (by simp))⟩
end Go.Proofs.YtdoneomahlfkbaaGreat
end
section
namespace Go.Proofs.YtdoneomahlfkbaaGreat
open Go.RowKit StrMath PlMath
theorem grp_eq (t g:Nat) (ht:t<18446744073709551616) (h1:1≤g) (h2:g≤64):t % g<64:=by have:=Nat.mod_lt t (show 0<g by omega);omega
theorem textN_lt (bs:List Nat):textN bs<18446744073709551616:=mixN_lt _
def groupN (s:ByteArray) (g:Int):Int×Int:=if g<1∨64<g then (0,2) else (((textN (natsOf s) % g.toNat:Nat):Int),0)
theorem group_any (s:ByteArray) (g:Int) (w:World) (hs:s.size≤maxLen) :
 Calls Tryz.prog 51 #[.string s,.int .i64 g] w fun e w'=>e = .returned (.tuple #[.int .i64 (groupN s g).1,.int .i64 (groupN s g).2])∧Below w.heap.size w w':=by
 by_cases hb:g<1∨64<g
 · have e0:groupN s g=(0,2):=by unfold groupN;rw [if_pos hb]
   rw [e0]
   have aux:decide (g<1)=true∨(decide (g<1)=false∧decide (64<g)=true):=by
    simp only [decide_eq_true_eq,decide_eq_false_iff_not];omega
   clear hb e0
   rcases aux with d1 | ⟨d1,d2⟩
   all_goals
    go_enter Tryz.func51,Tryz.ntmps51
    go_wp2
    go_ret2
    exact⟨rfl,Below.refl _ _⟩
 · obtain⟨k,rfl⟩:∃k:Nat,g=k:=⟨g.toNat,by omega⟩
   have e0:groupN s (k:Int)=(((textN (natsOf s) % k:Nat):Int),0):=by unfold groupN;rw [if_neg hb];rfl
   rw [e0]
   have d1:decide ((k:Int)<1)=false:=decide_eq_false (by omega)
   have d2:decide (64<(k:Int))=false:=decide_eq_false (by omega)
   have d3:decide (64<k)=false:=decide_eq_false (by omega)
   have hk:1≤k∧k≤64:=by omega
   have hm:=fun t (ht:t<18446744073709551616)=>grp_eq t k ht hk.1 hk.2
   have ht:=textN_lt (natsOf s)
   have HT:=Lh (text_any s w hs)
   clear e0 hb
   generalize textN (natsOf s)=t at *
   have hmt:=hm t ht
   clear hm
   go_enter Tryz.func51,Tryz.ntmps51
   go_wp2_with fail
   refine HT.out.mono ?_
   rintro e w2 ⟨rfl,hb⟩
   go_wp2
   go_ret2
   exact⟨rfl,hb⟩
end Go.Proofs.YtdoneomahlfkbaaGreat
end
section
namespace Go.Proofs.YtdoneomahlfkbaaGreat
open Go.RowKit StrMath PlMath
def ik (k:Int):Lit := .int .i64 k
def MapIs (D:DataW Unit) (f:Int→Option Int):Prop :=
 Go.Maps.IsMap D∧∀k:Int,Go.Maps.has D (ik k)=(f k).isSome∧D.atKey (ik k) (.lit (.int .i64 0)) = .lit (.int .i64 ((f k).getD 0))
theorem ik_ne {a b:Int} (h:a≠b):ik a≠ik b:=fun e=>h (by unfold ik at e;injection e)
theorem MapIs.empty:MapIs (.map []) (fun _=>none):=⟨Go.Maps.isMap_empty,fun k=>⟨rfl,rfl⟩⟩
theorem MapIs.put {D:DataW Unit} {f:Int→Option Int} (h:MapIs D f) (k v:Int):MapIs (D.put (ik k) (.lit (.int .i64 v))) (fun j=>if j=k then some v else f j):=by
 refine⟨h.1.put _ _,fun j=>?_⟩
 simp only []
 by_cases e:j=k
 · subst e
   rw [if_pos rfl,Go.Maps.has_put_same h.1 (by trivial),Go.Maps.atKey_put_same h.1 (by trivial)]
   exact⟨rfl,rfl⟩
 · rw [if_neg e,Go.Maps.has_put_other (ik_ne e),Go.Maps.atKey_put_other (ik_ne e)]
   exact h.2 j
theorem MapIs.del {D:DataW Unit} {f:Int→Option Int} (h:MapIs D f) (k:Int):MapIs (D.del (ik k)) (fun j=>if j=k then none else f j):=by
 refine⟨h.1.del _,fun j=>?_⟩
 simp only []
 by_cases e:j=k
 · subst e
   rw [if_pos rfl,Go.Maps.has_del_same,Go.Maps.atKey_del_same]
   exact⟨rfl,rfl⟩
 · rw [if_neg e,Go.Maps.has_del_other (ik_ne e),Go.Maps.atKey_del_other (ik_ne e)]
   exact h.2 j
theorem MapIs.congr {D:DataW Unit} {f g:Int→Option Int} (h:MapIs D f) (e:∀k,f k=g k):MapIs D g:=⟨h.1,fun k=>by rw [← e k];exact h.2 k⟩
def fillF (ms:List Mem):Nat→Int→Option Int
 | 0,_=>none
 | k+1,j=>if j=(ms.getD k (0,0)).1 then some (ms.getD k (0,0)).2 else fillF ms k j
theorem fillF_get {ms:List Mem} (h:Up ms) (n:Nat) (hn:n≤ms.length):∀k,k<n→fillF ms n (ms.getD k (0,0)).1=some (ms.getD k (0,0)).2:=by
 induction n with
 | zero=>intro k hk;omega
 | succ n ih =>
   intro k hk
   unfold fillF
   by_cases e:k=n
   · subst e;rw [if_pos rfl]
   · have hne:(ms.getD k (0,0)).1≠(ms.getD n (0,0)).1:=by
      have:=List.pairwise_iff_getElem.1 h.1 k n (by omega) (by omega) (by omega)
      rw [List.getD_eq_getElem?_getD,List.getD_eq_getElem?_getD,List.getElem?_eq_getElem (by omega),List.getElem?_eq_getElem (by omega)]
      simp only [Option.getD_some]
      omega
     rw [if_neg hne]
     exact ih (by omega) k (by omega)
def leftF (ms:List Mem) (n:Nat) (l:List Int) (j:Int):Option Int:=if l.contains j then none else fillF ms n j
structure Sta (w:World) (bx b N:Nat) (cs:Array Value) (f:Int→Option Int) (v:Value) (l:List Int) (wr:World):Prop where
 bel:Below w.heap.size w wr
 mp:∃D:DataW Unit,wr.ownsMap Tryz.prog 3 (plainElem Tryz.prog 3) b N D∧MapIs D f
 row:wr.ownsRow w.heap.size 3 1 v l.length (l.map iv)
 box:Blk wr bx 27 cs
 h1:w.heap.size≤bx
 h2:w.heap.size≤b
 ne:bx≠b
section
variable {w wr:World} {bx b N:Nat} {cs:Array Value} {f:Int→Option Int} {v:Value} {l:List Int}
theorem Sta.alloc (h:Sta w bx b N cs f v l wr) (o:Obj):Sta w bx b N cs f v l (wr.alloc o):=by
 obtain⟨D,hm,hD⟩:=h.mp
 exact⟨h.bel.alloc h.bel.size o,⟨D,hm.alloc o,hD⟩,h.row.alloc o,h.box.alloc o,h.h1,h.h2,h.ne⟩
theorem Sta.congr {g:Int→Option Int} (h:Sta w bx b N cs f v l wr) (e:∀k,f k=g k):Sta w bx b N cs g v l wr:=by
 obtain⟨D,hm,hD⟩:=h.mp
 exact⟨h.bel,⟨D,hm,hD.congr e⟩,h.row,h.box,h.h1,h.h2,h.ne⟩
theorem Sta.row_ne (h:Sta w bx b N cs f v l wr):some b≠v.ownBlock:=by
 obtain⟨D,⟨es,clock,hb,_⟩,_⟩:=h.mp
 rcases h.row.2 with ⟨rfl,_⟩ | ⟨g,cap,cur,rfl,_,hg,_⟩
 · simp [Value.ownBlock]
 · intro e
   have:b=g:=by simpa [Value.ownBlock] using e
   subst this
   rw [hb] at hg
   injection hg with hg
   injection hg
theorem Sta.turned {wr':World} {f':Int→Option Int} {N':Nat} (h:Sta w bx b N cs f v l wr) (hg:wr.grownBy wr' (some b)) (hm:∃D:DataW Unit,wr'.ownsMap Tryz.prog 3 (plainElem Tryz.prog 3) b N' D∧MapIs D f'):Sta w bx b N' cs f' v l wr' :=
 ⟨h.bel.grown hg h.bel.size (fun k hk=>by injection hk with hk;rw [← hk];exact h.h2),hm,h.row.kept hg (.inr fun e=>h.row_ne e.symm),h.box.grown hg (fun e=>h.ne (by injection e)),h.h1,h.h2,h.ne⟩
theorem Sta.appended {wr':World} {v':Value} {x:Int} (h:Sta w bx b N cs f v l wr) (hr:wr'.ownsRow w.heap.size 3 1 v' (l.length+1) (l.map iv ++ [iv x])) (hg:wr.grownBy wr' v.ownBlock):Sta w bx b N cs f v' (l ++ [x]) wr':=by
 obtain⟨D,hm,hD⟩:=h.mp
 exact⟨bel_grown_own h.bel h.bel.size h.row hg,⟨D,hm.kept hg h.row_ne,hD⟩,by rw [List.length_append,List.map_append];exact hr,h.box.grown hg (fun e=>own_blk_ne h.row h.box (by decide) e.symm),h.h1,h.h2,h.ne⟩
end
theorem lawInt:Go.Maps.Keyed Tryz.prog 3:=Go.Maps.int_keyed Tryz.underlying3
theorem zeroInt (w:World):(zeroValue 3).run Tryz.prog w = .ok (.int .i64 0) w:=by kernel_rfl
def cF (g:Nat) (r:Nat) (x:Mem):Int:=cost (hashN g r x.1.toNat) x.2
def nodesR (ms:List Mem) (g n:Int):List Int×Int :=
 if chk ms=false then ([],110) else if g<0∨64≤g∨n<1∨255<n then ([],2) else if (wts ms:Int)<n then ([],111) else (picks (cF g.toNat) ms n.toNat,0)
def RetI (r:List Int×Int) (w:World) (e:Ending) (w':World):Prop :=
 ∃v,e = .returned (.tuple #[v,.int .i64 r.2])∧w'.ownsRow w.heap.size 3 1 v r.1.length (r.1.map iv)∧Below w.heap.size w w'
theorem RetI.nil (er:Int) {w w':World} (h:Below w.heap.size w w'):RetI ([],er) w (.returned (.tuple #[.slice none 0 0,.int .i64 er])) w' :=
 ⟨_,rfl,⟨rfl,.inl ⟨rfl,rfl⟩⟩,h⟩
end Go.Proofs.YtdoneomahlfkbaaGreat
end
