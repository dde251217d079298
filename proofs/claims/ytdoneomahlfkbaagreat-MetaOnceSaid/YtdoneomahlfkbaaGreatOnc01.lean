/- RISING ROWS: what is put into, taken out of, found in a row that rises by a key. Plain; PLAIN LAWS of the sum CRC-32C: one step a bit, linear over xor -/
import Derived.Test.YtdoneomahlfkbaaGreatRows
import Derived.WalkKit
import Derived.WalkSpells
import Derived.WalkLawsBesides
import Derived.Lib.Hide
import Derived.Below
import Derived.Laws.OwnMore
import Derived.Deep.AppendLies
import Derived.Deep.Draws
import Derived.Maps.AppendAt
import Derived.RegionTactic
import Derived.OwnWalk
import Derived.Laws.Rows
import Derived.Deep.QuietTactic
import Derived.BigQuiet
import Derived.ProofKit
import Derived.OpenShut
import Derived.ShutString
import Derived.ChangeOld
import Derived.Laws.BytesString
import Derived.Laws.Cells
import Derived.Deep.RegionLaw
import Derived.Deep.OwnRows
set_option linter.unusedVariables false
set_option linter.unusedSimpArgs false
section
namespace Go.Proofs.YtdoneomahlfkbaaGreat
structure SOrd (K:Type) where
 lt:K→K→Bool
 irr:∀a,lt a a=false
 tr:∀ {a b c},lt a b=true→lt b c=true→lt a c=true
 tri:∀ {a b},lt a b=false→lt b a=false→a=b
section
variable {K α:Type} (o:SOrd K) (key:α→K)
def Ris (l:List α):Prop:=l.Pairwise fun a b=>o.lt (key a) (key b)=true
def putR (x:α):List α→List α
 | []=>[x]
 | y :: l=>if o.lt (key y) (key x) then y :: putR x l else if o.lt (key x) (key y) then x :: y :: l else x :: l
def dropR (k:K):List α→List α
 | []=>[]
 | y :: l=>if o.lt (key y) k then y :: dropR k l else if o.lt k (key y) then y :: l else l
def findR (k:K):List α→Option α
 | []=>none
 | y :: l=>if o.lt (key y) k then findR k l else if o.lt k (key y) then none else some y
variable {o:SOrd K} {key:α→K}
theorem SOrd.asym {a b:K} (h:o.lt a b=true):o.lt b a=false:=by
 cases e:o.lt b a with
 | false=>rfl
 | true=>have:=o.tr h e;rw [o.irr] at this;cases this
theorem SOrd.ne {a b:K} (h:o.lt a b=true):a≠b:=fun e=>by rw [e,o.irr] at h;cases h
theorem Ris.tail {y:α} {l:List α} (h:Ris o key (y :: l)):Ris o key l:=(List.pairwise_cons.1 h).2
theorem Ris.head {y:α} {l:List α} (h:Ris o key (y :: l)):∀z ∈ l,o.lt (key y) (key z)=true:=(List.pairwise_cons.1 h).1
theorem mem_put {x:α}:∀ {l:List α},Ris o key l→∀ {y:α},y ∈ putR o key x l↔y=x∨(y ∈ l∧key y≠key x)
 | [],_,y=>by simp [putR]
 | z :: l,h,y=>by
   unfold putR
   cases h1:o.lt (key z) (key x) with
   | true =>
     rw [if_pos rfl,List.mem_cons,mem_put h.tail,List.mem_cons]
     constructor
     · rintro (rfl | rfl | ⟨h2,h3⟩)
       · exact .inr ⟨.inl rfl,SOrd.ne h1⟩
       · exact .inl rfl
       · exact .inr ⟨.inr h2,h3⟩
     · rintro (rfl | ⟨rfl | h2,h3⟩)
       · exact .inr (.inl rfl)
       · exact .inl rfl
       · exact .inr (.inr ⟨h2,h3⟩)
   | false =>
     rw [if_neg (by simp)]
     cases h2:o.lt (key x) (key z) with
     | true =>
       rw [if_pos rfl,List.mem_cons]
       constructor
       · rintro (rfl | h3)
         · exact .inl rfl
         · refine .inr ⟨h3,fun e=>?_⟩
           rcases List.mem_cons.1 h3 with rfl | h4
           · rw [e,o.irr] at h2;cases h2
           · have:=o.tr h2 (h.head y h4);rw [e,o.irr] at this;cases this
       · rintro (rfl | ⟨h3,-⟩)
         · exact .inl rfl
         · exact .inr h3
     | false =>
       have e:=o.tri h1 h2
       rw [if_neg (by simp),List.mem_cons,List.mem_cons]
       constructor
       · rintro (rfl | h3)
         · exact .inl rfl
         · exact .inr ⟨.inr h3,fun e2=>by have:=h.head y h3;rw [e2,← e,o.irr] at this;cases this⟩
       · rintro (rfl | ⟨rfl | h3,h4⟩)
         · exact .inl rfl
         · exact absurd e h4
         · exact .inr h3
theorem mem_drop_ {k:K}:∀ {l:List α},Ris o key l→∀ {y:α},y ∈ dropR o key k l↔(y ∈ l∧key y≠k)
 | [],_,y=>by simp [dropR]
 | z :: l,h,y=>by
   unfold dropR
   cases h1:o.lt (key z) k with
   | true =>
     rw [if_pos rfl,List.mem_cons,mem_drop_ h.tail,List.mem_cons]
     constructor
     · rintro (rfl | ⟨h2,h3⟩)
       · exact⟨.inl rfl,SOrd.ne h1⟩
       · exact⟨.inr h2,h3⟩
     · rintro⟨rfl | h2,h3⟩
       · exact .inl rfl
       · exact .inr ⟨h2,h3⟩
   | false =>
     rw [if_neg (by simp)]
     cases h2:o.lt k (key z) with
     | true =>
       rw [if_pos rfl]
       constructor
       · intro h3
         refine⟨h3,fun e=>?_⟩
         rcases List.mem_cons.1 h3 with rfl | h4
         · rw [e,o.irr] at h2;cases h2
         · have:=o.tr h2 (h.head y h4);rw [e,o.irr] at this;cases this
       · exact fun h3=>h3.1
     | false =>
       have e:=o.tri h1 h2
       rw [if_neg (by simp),List.mem_cons]
       constructor
       · intro h3
         exact⟨.inr h3,fun e2=>by have:=h.head y h3;rw [e2,← e,o.irr] at this;cases this⟩
       · rintro⟨rfl | h3,h4⟩
         · exact absurd e h4
         · exact h3
theorem ris_put {x:α}:∀ {l:List α},Ris o key l→Ris o key (putR o key x l)
 | [],_=>List.pairwise_singleton _ _
 | z :: l,h=>by
   unfold putR
   cases h1:o.lt (key z) (key x) with
   | true =>
     rw [if_pos rfl]
     refine List.pairwise_cons.2 ⟨fun y hy=>?_,ris_put h.tail⟩
     rcases (mem_put h.tail).1 hy with rfl | ⟨h2,-⟩
     · exact h1
     · exact h.head y h2
   | false =>
     rw [if_neg (by simp)]
     cases h2:o.lt (key x) (key z) with
     | true =>
       rw [if_pos rfl]
       refine List.pairwise_cons.2 ⟨fun y hy=>?_,h⟩
       rcases List.mem_cons.1 hy with rfl | h4
       · exact h2
       · exact o.tr h2 (h.head y h4)
     | false =>
       have e:=o.tri h1 h2
       rw [if_neg (by simp)]
       exact List.pairwise_cons.2 ⟨fun y hy=>by rw [← e];exact h.head y hy,h.tail⟩
theorem drop_sub {k:K} {l:List α}:List.Sublist (dropR o key k l) l:=by
 induction l with
 | nil=>exact List.Sublist.slnil
 | cons z l ih =>
   unfold dropR
   split
   · exact ih.cons_cons z
   · split
     · exact List.Sublist.refl _
     · exact List.sublist_cons_self z l
theorem ris_drop {k:K} {l:List α} (h:Ris o key l):Ris o key (dropR o key k l):=h.sublist drop_sub
theorem find_some {k:K}:∀ {l:List α},Ris o key l→∀ {y:α},findR o key k l=some y↔(y ∈ l∧key y=k)
 | [],_,y=>by simp [findR]
 | z :: l,h,y=>by
   unfold findR
   cases h1:o.lt (key z) k with
   | true =>
     rw [if_pos rfl,find_some h.tail,List.mem_cons]
     constructor
     · rintro⟨h2,h3⟩;exact⟨.inr h2,h3⟩
     · rintro⟨rfl | h2,h3⟩
       · rw [h3,o.irr] at h1;cases h1
       · exact⟨h2,h3⟩
   | false =>
     rw [if_neg (by simp)]
     cases h2:o.lt k (key z) with
     | true =>
       rw [if_pos rfl]
       constructor
       · intro h3;cases h3
       · rintro⟨h3,h4⟩
         rcases List.mem_cons.1 h3 with rfl | h5
         · rw [h4,o.irr] at h2;cases h2
         · have:=o.tr h2 (h.head y h5);rw [h4,o.irr] at this;cases this
     | false =>
       have e:=o.tri h1 h2
       rw [if_neg (by simp)]
       constructor
       · intro h3;injection h3 with h3;subst h3;exact⟨List.mem_cons_self,e⟩
       · rintro⟨h3,h4⟩
         rcases List.mem_cons.1 h3 with rfl | h5
         · rfl
         · have:=h.head y h5;rw [h4,e,o.irr] at this;cases this
theorem find_none {k:K} {l:List α} (h:Ris o key l):findR o key k l=none↔∀y ∈ l,key y≠k:=by
 constructor
 · intro e y hy hk
   have:=(find_some h).2 ⟨hy,hk⟩
   rw [e] at this;cases this
 · intro hn
   cases e:findR o key k l with
   | none=>rfl
   | some y=>have:=(find_some h).1 e;exact absurd this.2 (hn y this.1)
theorem put_len {x:α}:∀ {l:List α},Ris o key l→(putR o key x l).length=if findR o key (key x) l=none then l.length+1 else l.length
 | [],_=>by simp [putR,findR]
 | z :: l,h=>by
   unfold putR findR
   cases h1:o.lt (key z) (key x) with
   | true =>
     simp only [↓reduceIte,List.length_cons]
     rw [put_len h.tail]
     split <;> rfl
   | false =>
     cases h2:o.lt (key x) (key z) with
     | true=>simp
     | false=>simp
theorem drop_len {k:K}:∀ {l:List α},Ris o key l→(dropR o key k l).length=if findR o key k l=none then l.length else l.length - 1
 | [],_=>by simp [dropR,findR]
 | z :: l,h=>by
   unfold dropR findR
   cases h1:o.lt (key z) k with
   | true =>
     simp only [↓reduceIte,List.length_cons]
     rw [drop_len h.tail]
     split
     · rfl
     · rename_i hn
       have hl:0<l.length:=by
        cases l with
        | nil=>exact absurd rfl hn
        | cons _ _=>simp
       omega
   | false =>
     cases h2:o.lt k (key z) with
     | true=>simp
     | false=>simp
theorem drop_none {k:K}:∀ {l:List α},Ris o key l→findR o key k l=none→dropR o key k l=l
 | [],_,_=>rfl
 | z :: l,h,e=>by
   unfold findR at e
   unfold dropR
   cases h1:o.lt (key z) k with
   | true=>rw [h1,if_pos rfl] at e;rw [if_pos rfl,drop_none h.tail e]
   | false =>
     rw [h1,if_neg (by simp)] at e
     rw [if_neg (by simp)]
     cases h2:o.lt k (key z) with
     | true=>rw [if_pos rfl]
     | false=>rw [h2,if_neg (by simp)] at e;cases e
theorem Ris.uniq {l:List α} (h:Ris o key l) {x y:α} (hx:x ∈ l) (hy:y ∈ l) (e:key x=key y):x=y:=by
 have h1:=(find_some h).2 ⟨hx,rfl⟩
 have h2:=(find_some h).2 ⟨hy,rfl⟩
 rw [e,h2] at h1
 exact (Option.some.inj h1).symm
end
end Go.Proofs.YtdoneomahlfkbaaGreat
end
section
namespace Go.Proofs.YtdoneomahlfkbaaGreat.OctMath
def PL:Nat:=2197175160
def stp (c:Nat):Nat:=if c % 2=1 then c / 2 ^^^ PL else c / 2
theorem x4 (a b c d:Nat):(a ^^^ b) ^^^ (c ^^^ d)=(a ^^^ c) ^^^ (b ^^^ d):=by
 rw [Nat.xor_assoc,Nat.xor_assoc,← Nat.xor_assoc b c d,Nat.xor_comm b c,Nat.xor_assoc c b d]
def putN (n:Nat):List Nat:=if h:n<128 then [n] else (n % 128+128) :: putN (n / 128)
termination_by n
decreasing_by omega
theorem putN_small {n:Nat} (h:n<128):putN n=[n]:=by rw [putN,dif_pos h]
theorem putN_big {n:Nat} (h:¬n<128):putN n=(n % 128+128) :: putN (n / 128):=by rw [putN,dif_neg h]
theorem putN_len (k:Nat):∀n,n<128 ^ (k+1)→(putN n).length≤k+1:=by
 induction k with
 | zero=>intro n h;rw [putN_small (by simpa using h)];simp
 | succ k ih =>
   intro n h
   by_cases h1:n<128
   · rw [putN_small h1];simp
   · rw [putN_big h1,List.length_cons]
     have:=ih (n / 128) (by rw [Nat.pow_succ] at h;exact (Nat.div_lt_iff_lt_mul (by omega)).2 h)
     omega
theorem putN_pos (n:Nat):0<(putN n).length:=by
 by_cases h:n<128
 · rw [putN_small h];simp
 · rw [putN_big h];simp
theorem putN_len10 {n:Nat} (h:n<18446744073709551616):(putN n).length≤10:=putN_len 9 n (Nat.lt_of_lt_of_le h (by decide))
def zz (n:Int):Nat:=if 0≤n then (2*n).toNat else (-2*n - 1).toNat
end Go.Proofs.YtdoneomahlfkbaaGreat.OctMath
end
section
namespace Go.Proofs.YtdoneomahlfkbaaGreat
open OctMath
abbrev Rd (α:Type):=Nat→Option (α×Nat)
def Rd.pure {α:Type} (x:α):Rd α:=fun at_=>some (x,at_)
def Rd.bind {α β:Type} (r:Rd α) (f:α→Rd β):Rd β:=fun at_=>match r at_ with
 | some (x,p)=>f x p
 | none=>none
theorem Rd.bind_some {α β:Type} {r:Rd α} {f:α→Rd β} {at_ p:Nat} {x:α} (h:r at_=some (x,p)):r.bind f at_=f x p:=by unfold Rd.bind;rw [h]
theorem Rd.bind_none {α β:Type} {r:Rd α} {f:α→Rd β} {at_ : Nat} (h:r at_=none):r.bind f at_=none:=by unfold Rd.bind;rw [h]
structure IdT where
 ver:Nat
 idx:Int
 ep:Nat
structure HdT where
 id:IdT
 k:Int
 n:Int
 size:Int
 sum:Nat
structure Wrote {α:Type} (bs:List Nat) (r:Rd α) (put:α→List Nat):Prop where
 rd:∀at_ x p,r at_=some (x,p)→at_≤bs.length→at_≤p∧p≤bs.length∧(bs.drop at_).take (p - at_)=put x
theorem Wrote.pure {α:Type} (bs:List Nat) (x:α):Wrote bs (Rd.pure x) (fun _=>[]):=⟨fun at_ y p h hl=>by cases h;exact⟨Nat.le_refl _,hl,by simp⟩⟩
theorem take_join (bs:List Nat) {a p q:Nat} (h1:a≤p) (h2:p≤q):(bs.drop a).take (q - a)=(bs.drop a).take (p - a) ++ (bs.drop p).take (q - p):=by
 have e:q - a=(p - a)+(q - p):=by omega
 rw [e,List.take_add,List.drop_drop,show a+(p - a)=p by omega]
theorem Wrote.bind {α β:Type} {bs:List Nat} {r:Rd α} {f:α→Rd β} {put:α→List Nat} {put2:α→β→List Nat} {put3:β→List Nat} (h:Wrote bs r put) (hf:∀x,Wrote bs (f x) (put2 x)) (he:∀at_ x p y q,r at_=some (x,p)→f x p=some (y,q)→put3 y=put x ++ put2 x y):Wrote bs (r.bind f) put3:=by
 refine⟨fun at_ y q hy hl=>?_⟩
 unfold Rd.bind at hy
 cases hr:r at_ with
 | none=>rw [hr] at hy;cases hy
 | some v =>
   obtain⟨x,p⟩:=v
   rw [hr] at hy
   obtain⟨a1,a2,a3⟩:=h.rd at_ x p hr hl
   obtain⟨b1,b2,b3⟩:=(hf x).rd p y q hy a2
   exact⟨by omega,b2,by rw [take_join bs a1 b1,a3,b3,he at_ x p y q hr hy]⟩
end Go.Proofs.YtdoneomahlfkbaaGreat
end
section
namespace Go.Proofs.YtdoneomahlfkbaaGreat
open OctMath
structure CmdT where
 kind:Int
 client:Nat
 seq:Nat
 key:List Nat
 size:Int
 sum:Nat
 version:Nat
 epoch:Nat
 group:Int
 node:Int
 up:Bool
 id:IdT
 mep:Nat
 mem:List (Int×Int)
structure EntT where
 index:Nat
 term:Nat
 kind:Int
 cmd:CmdT
 voters:List Int
 learners:List Int
def I64 (x:Int):Prop := -9223372036854775808≤x∧x≤9223372036854775807
structure CmdOk (c:CmdT):Prop where
 kind : -9223372036854775808≤c.kind∧c.kind≤9223372036854775807
 client:c.client<18446744073709551616
 seq:c.seq<18446744073709551616
 key:(∀y ∈ c.key,y<256)∧c.key.length≤1048576
 size : -9223372036854775808≤c.size∧c.size≤9223372036854775807
 sum:c.sum<4294967296
 version:c.version<18446744073709551616
 epoch:c.epoch<18446744073709551616
 group : -9223372036854775808≤c.group∧c.group≤9223372036854775807
 node : -9223372036854775808≤c.node∧c.node≤9223372036854775807
 id:c.id.ver<18446744073709551616∧(-9223372036854775808≤c.id.idx∧c.id.idx≤9223372036854775807)∧c.id.ep<18446744073709551616
 map:c.mep<18446744073709551616∧(∀y ∈ c.mem,(-9223372036854775808≤y.1∧y.1≤9223372036854775807)∧(-9223372036854775808≤y.2∧y.2≤9223372036854775807))∧c.mem.length≤1048576
structure EntOk (e:EntT):Prop where
 index:e.index<18446744073709551616
 term:e.term<18446744073709551616
 kind : -9223372036854775808≤e.kind∧e.kind≤9223372036854775807
 cmd:CmdOk e.cmd
 vot:(∀y ∈ e.voters,-9223372036854775808≤y∧y≤9223372036854775807)∧e.voters.length≤1048576
 lea:(∀y ∈ e.learners,-9223372036854775808≤y∧y≤9223372036854775807)∧e.learners.length≤1048576
end Go.Proofs.YtdoneomahlfkbaaGreat
end
section
namespace Go.Proofs.YtdoneomahlfkbaaGreat
open OctMath
def IdOk (x:IdT):Prop:=x.ver<18446744073709551616∧(-9223372036854775808≤x.idx∧x.idx≤9223372036854775807)∧x.ep<18446744073709551616
def IntsOk (l:List Int):Prop:=(∀y ∈ l,I64 y)∧l.length≤1048576
def MemOk (x:Int×Int):Prop:=(-9223372036854775808≤x.1∧x.1≤9223372036854775807)∧(-9223372036854775808≤x.2∧x.2≤9223372036854775807)
def MapOk (x:Nat×List (Int×Int)):Prop:=x.1<18446744073709551616∧(∀y ∈ x.2,MemOk y)∧x.2.length≤1048576
structure ObjT where
 key:List Nat
 version:Nat
 size:Int
 sum:Nat
 group:Int
 epoch:Nat
 nodes:List Int
structure IntT where
 obj:ObjT
 client:Nat
 seq:Nat
structure SesT where
 client:Nat
 seq:Nat
 opn:Bool
 version:Nat
 code:Int
structure WasT where
 id:IdT
 node:Int
structure MetT where
 k:Int
 n:Int
 groups:Int
 mep:Nat
 mem:List (Int×Int)
 nep:Nat
 nem:List (Int×Int)
 cut:List Int
 objs:List ObjT
 ints:List IntT
 sess:List SesT
 wass:List WasT
 down:List Int
 last:Nat
structure ObjOk (x:ObjT):Prop where
 key:(∀y ∈ x.key,y<256)∧x.key.length≤1048576
 version:x.version<18446744073709551616
 size:I64 x.size
 sum:x.sum<4294967296
 group:I64 x.group
 epoch:x.epoch<18446744073709551616
 nodes:IntsOk x.nodes
structure InteOk (x:IntT):Prop where
 obj:ObjOk x.obj
 client:x.client<18446744073709551616
 seq:x.seq<18446744073709551616
structure SesOk (x:SesT):Prop where
 client:x.client<18446744073709551616
 seq:x.seq<18446744073709551616
 version:x.version<18446744073709551616
 code:I64 x.code
structure WasOk (x:WasT):Prop where
 id:IdOk x.id
 node:I64 x.node
structure MetOk (x:MetT):Prop where
 k:I64 x.k
 n:I64 x.n
 groups:I64 x.groups
 map:MapOk (x.mep,x.mem)
 next:MapOk (x.nep,x.nem)
 cut:IntsOk x.cut
 objs:(∀y ∈ x.objs,ObjOk y)∧x.objs.length≤1048576
 ints:(∀y ∈ x.ints,InteOk y)∧x.ints.length≤1048576
 sess:(∀y ∈ x.sess,SesOk y)∧x.sess.length≤1048576
 wass:(∀y ∈ x.wass,WasOk y)∧x.wass.length≤1048576
 down:IntsOk x.down
 last:x.last<18446744073709551616
end Go.Proofs.YtdoneomahlfkbaaGreat
end
section
namespace Go.Proofs.YtdoneomahlfkbaaGreat
open OctMath
def natO:SOrd Nat where
 lt a b:=decide (a<b)
 irr a:=by simp
 tr h k:=by simp only [decide_eq_true_eq] at *;omega
 tri h k:=by simp only [decide_eq_false_iff_not] at *;omega
def intO:SOrd Int where
 lt a b:=decide (a<b)
 irr a:=by simp
 tr h k:=by simp only [decide_eq_true_eq] at *;omega
 tri h k:=by simp only [decide_eq_false_iff_not] at *;omega
def ltB:List Nat→List Nat→Bool
 | [],[]=>false
 | [],_ :: _=>true
 | _ :: _,[]=>false
 | x :: xs,y :: ys=>if x<y then true else if y<x then false else ltB xs ys
theorem ltB_irr:∀a,ltB a a=false
 | []=>rfl
 | x :: xs=>by unfold ltB;rw [if_neg (Nat.lt_irrefl _),if_neg (Nat.lt_irrefl _)];exact ltB_irr xs
theorem ltB_tr:∀ {a b c:List Nat},ltB a b=true→ltB b c=true→ltB a c=true
 | [],[],_,h,_=>by cases h
 | [],_ :: _,[],_,k=>by cases k
 | [],_ :: _,_ :: _,_,_=>rfl
 | _ :: _,[],_,h,_=>by cases h
 | _ :: _,_ :: _,[],_,k=>by cases k
 | x :: xs,y :: ys,z :: zs,h,k=>by
   unfold ltB at h k ⊢
   by_cases h1:x<y
   · by_cases k1:y<z
     · rw [if_pos (by omega)]
     · rw [if_neg k1] at k
       by_cases k2:z<y
       · rw [if_pos k2] at k;cases k
       · rw [if_pos (by omega)]
   · rw [if_neg h1] at h
     by_cases h2:y<x
     · rw [if_pos h2] at h;cases h
     · rw [if_neg h2] at h
       by_cases k1:y<z
       · rw [if_pos (by omega)]
       · rw [if_neg k1] at k
         by_cases k2:z<y
         · rw [if_pos k2] at k;cases k
         · rw [if_neg k2] at k
           rw [if_neg (by omega),if_neg (by omega)]
           exact ltB_tr h k
theorem ltB_tri:∀ {a b:List Nat},ltB a b=false→ltB b a=false→a=b
 | [],[],_,_=>rfl
 | [],_ :: _,h,_=>by cases h
 | _ :: _,[],_,k=>by cases k
 | x :: xs,y :: ys,h,k=>by
   unfold ltB at h k
   by_cases h1:x<y
   · rw [if_pos h1] at h;cases h
   · rw [if_neg h1] at h
     by_cases h2:y<x
     · rw [if_pos h2] at k;cases k
     · rw [if_neg h2] at h
       rw [if_neg h2,if_neg h1] at k
       rw [show x=y by omega,ltB_tri h k]
def bytO:SOrd (List Nat):=⟨ltB,ltB_irr,ltB_tr,ltB_tri⟩
def ltW (a b:WasT):Bool:=decide (a.id.ver<b.id.ver) || (decide (a.id.ver=b.id.ver) && (decide (a.id.idx<b.id.idx) || (decide (a.id.idx=b.id.idx) && (decide (a.id.ep<b.id.ep) || (decide (a.id.ep=b.id.ep) && decide (a.node<b.node))))))
def wasO:SOrd WasT where
 lt:=ltW
 irr a:=by unfold ltW;simp
 tr {a b c} h k:=by
  unfold ltW at *
  simp only [Bool.or_eq_true,Bool.and_eq_true,decide_eq_true_eq] at *
  omega
 tri {a b} h k:=by
  obtain⟨⟨a1,a2,a3⟩,a4⟩:=a
  obtain⟨⟨b1,b2,b3⟩,b4⟩:=b
  unfold ltW at *
  simp only [Bool.or_eq_false_iff,Bool.and_eq_false_iff,decide_eq_false_iff_not] at *
  have e1:a1=b1:=by omega
  have e2:a2=b2:=by omega
  have e3:a3=b3:=by omega
  have e4:a4=b4:=by omega
  rw [e1,e2,e3,e4]
abbrev MapT:=Nat×List (Int×Int)
structure PlF where
 grp:List Nat→Int→Int
 nds:MapT→Int→Int→List Int
 okM:Int→MapT→Bool
 grpR:∀ (k:List Nat) (gs:Int),1≤gs→gs≤64→0≤grp k gs∧grp k gs<gs
 len:∀ {n:Int} {m:MapT} {g:Int},okM n m=true→1≤n→n≤32→0≤g→g<64→((nds m g n).length:Int)=n
 rng:∀ {n:Int} {m:MapT} {g:Int},okM n m=true→1≤n→n≤32→0≤g→g<64→∀d ∈ nds m g n,1≤d∧d≤32
def MetT.map (m:MetT):MapT:=(m.mep,m.mem)
def MetT.next (m:MetT):MapT:=(m.nep,m.nem)
def MetT.moving (m:MetT):Bool:=decide (m.nep≠m.mep)
def MetT.of (m:MetT) (ep:Nat):MapT:=if ep=m.mep then m.map else m.next
structure FitM (P:PlF) (m:MetT) (o:ObjT):Prop where
 key:o.key≠[]
 keyL:o.key.length≤64
 ver:0<o.version
 last:o.version≤m.last
 size:0≤o.size∧o.size≤65536
 grp:o.group=P.grp o.key m.groups
 ep:o.epoch=(m.of o.epoch).1
 nodes:o.nodes=P.nds (m.of o.epoch) o.group m.n
def wastesOf (o:ObjT):List WasT:=o.nodes.mapIdx fun i nd=>⟨⟨o.version,(i:Int),o.epoch⟩,nd⟩
def wasteF (ws:List WasT) (o:ObjT):List WasT:=(wastesOf o).foldl (fun l w=>putR wasO (fun x=>x) w l) ws
structure ResT where
 code:Int
 version:Nat
 nodes:List Int
 epoch:Nat
def resC (c:Int):ResT:=⟨c,0,[],0⟩
def whenC (b:Bool):ResT:=resC (if b then 1 else 3)
abbrev verI (x:IntT):Nat:=x.obj.version
def putSess (m:MetT) (s:SesT):MetT:={ m with sess:=putR natO SesT.client s m.sess }
def giveUpM (m:MetT) (x:IntT):MetT:={ m with wass:=wasteF m.wass x.obj,ints:=dropR natO verI x.obj.version m.ints }
def sizedM (c:CmdT):Bool:=decide (c.kind≠1) || (decide (0≤c.size) && decide (c.size≤65536))
def askBad (c:CmdT):Bool:=decide (c.client<1) || decide (64<c.client) || decide (c.seq=0) || decide (c.key=[]) || decide (64<c.key.length) || !sizedM c
def askM (m:MetT) (c:CmdT):ResT ⊕ MetT :=
 if askBad c then .inl (whenC false) else
 match findR natO SesT.client c.client m.sess with
 | none => .inr m
 | some s =>
   if c.seq<s.seq then .inl (resC 4) else
   if s.seq=c.seq∧s.opn=false then .inl ⟨s.code,s.version,[],0⟩ else
   if s.opn then (match findR natO verI s.version m.ints with | some x => .inr (giveUpM m x) | none => .inr m) else .inr m
def beginM (P:PlF) (m:MetT) (c:CmdT):MetT×ResT :=
 match askM m c with
 | .inl r=>(m,r)
 | .inr m =>
   let g:=P.grp c.key m.groups
   let o:ObjT:=⟨c.key,m.last,c.size,c.sum,g,m.nep,P.nds m.next g m.n⟩
   (putSess { m with ints:=m.ints ++ [⟨o,c.client,c.seq⟩] } ⟨c.client,c.seq,true,m.last,0⟩,⟨0,m.last,o.nodes,m.nep⟩)
def awayM (m:MetT) (key:List Nat):MetT×Bool :=
 match findR bytO ObjT.key key m.objs with
 | some o=>({ m with wass:=wasteF m.wass o,objs:=dropR bytO ObjT.key key m.objs },true)
 | none=>(m,false)
def removeM (m:MetT) (c:CmdT):MetT×ResT :=
 match askM m c with
 | .inl r=>(m,r)
 | .inr m =>
   let code:Int:=if (awayM m c.key).2 then 1 else 2
   (putSess (awayM m c.key).1 ⟨c.client,c.seq,false,0,code⟩,resC code)
def commitM (m:MetT) (c:CmdT):MetT×ResT :=
 match findR natO verI c.version m.ints with
 | none=>(m,whenC false)
 | some x =>
   let m1:=(awayM { m with ints:=dropR natO verI c.version m.ints } x.obj.key).1
   (putSess { m1 with objs:=putR bytO ObjT.key x.obj m1.objs } ⟨x.client,x.seq,false,c.version,1⟩,⟨1,c.version,[],0⟩)
def abortM (m:MetT) (c:CmdT):MetT×ResT :=
 match findR natO verI c.version m.ints with
 | none=>(m,whenC false)
 | some x=>(putSess (giveUpM m x) ⟨x.client,x.seq,false,c.version,3⟩,⟨1,c.version,[],0⟩)
def comingM (P:PlF) (m:MetT) (c:CmdT):MetT×ResT :=
 if m.moving=false∧c.mep=(m.mep+1) % 18446744073709551616∧P.okM m.n (c.mep,c.mem)=true then ({ m with nep:=c.mep,nem:=c.mem },whenC true) else (m,whenC false)
def movedM (P:PlF) (m:MetT) (c:CmdT):MetT×ResT :=
 match m.objs.find? (fun o=>o.version == c.version) with
 | none=>(m,whenC false)
 | some o=>if c.epoch=m.nep∧o.epoch≠c.epoch then ({ m with wass:=wasteF m.wass o,objs:=putR bytO ObjT.key { o with epoch:=c.epoch,nodes:=P.nds m.next o.group m.n } m.objs },whenC true) else (m,whenC false)
def oldM (m:MetT) (g:Int) (o:ObjT):Bool:=decide (o.group=g) && decide (o.epoch≠m.nep)
def cutM (m:MetT) (c:CmdT):MetT×ResT :=
 if m.moving=false∨c.group<0∨m.groups≤c.group∨c.group ∈ m.cut then (m,whenC false) else
 if m.objs.any (oldM m c.group) || m.ints.any (fun x=>oldM m c.group x.obj) then (m,whenC false) else
 let cut:=putR intO (fun x=>x) c.group m.cut
 if (cut.length:Int)=m.groups then ({ m with mep:=m.nep,mem:=m.nem,cut:=[] },whenC true) else ({ m with cut:=cut },whenC true)
def goneM (m:MetT) (c:CmdT):MetT×ResT :=
 let ws:=dropR wasO (fun x=>x) ⟨c.id,c.node⟩ m.wass
 ({ m with wass:=ws },whenC (decide (ws.length<m.wass.length)))
def liveM (m:MetT) (c:CmdT):MetT×ResT :=
 if 1≤c.node∧c.node≤32 then (if c.up then { m with down:=dropR intO (fun x=>x) c.node m.down } else { m with down:=putR intO (fun x=>x) c.node m.down },whenC true) else (m,whenC false)
def stepM (P:PlF) (m:MetT) (c:CmdT):MetT×ResT :=
 if c.kind=1 then beginM P m c else if c.kind=2 then commitM m c else if c.kind=3 then abortM m c else if c.kind=4 then removeM m c else
 if c.kind=5 then comingM P m c else if c.kind=6 then movedM P m c else if c.kind=7 then cutM m c else if c.kind=8 then goneM m c else if c.kind=9 then liveM m c else (m,whenC false)
def applyM (P:PlF) (m:MetT) (index:Nat) (c:CmdT):MetT×ResT:=stepM P { m with last:=index } c
structure MayM (P:PlF) (m:MetT):Prop where
 k:1≤m.k∧m.k≤m.n∧m.n≤32
 gs:1≤m.groups∧m.groups≤64
 map:P.okM m.n m.map=true
 next:P.okM m.n m.next=true
 cut:Ris intO (fun x=>x) m.cut
 cutR:∀g ∈ m.cut,0≤g∧g<m.groups
 cutL:(m.cut.length:Int)<m.groups
 mv:if m.nep=m.mep then m.mem=m.nem∧m.cut=[] else m.nep=(m.mep+1) % 18446744073709551616
 objs:Ris bytO ObjT.key m.objs
 ints:Ris natO verI m.ints
 sess:Ris natO SesT.client m.sess
 wass:Ris wasO (fun x=>x) m.wass
 down:Ris intO (fun x=>x) m.down
 downR:∀d ∈ m.down,1≤d∧d≤32
 vers:(m.objs.map (·.version) ++ m.ints.map verI).Nodup
 fitO:∀o ∈ m.objs,FitM P m o
 fitI:∀x ∈ m.ints,FitM P m x.obj
 sesR:∀s ∈ m.sess,1≤s.client∧s.client≤64∧s.seq≠0
 sesO:∀s ∈ m.sess,s.opn=true→∃x ∈ m.ints,x.obj.version=s.version∧x.client=s.client∧x.seq=s.seq
 sesN:(m.sess.filter (·.opn)).length=m.ints.length
end Go.Proofs.YtdoneomahlfkbaaGreat
end
section
namespace Go.Proofs.YtdoneomahlfkbaaGreat
theorem Lh {p:Prop} (h:p):Go.RowKit.Hid p:=Go.Lib.hid h
theorem pA9 {α:Type _} {l:List α} {i:Nat} {a:α}:l.toArray.setIfInBounds i a=(l.set i a).toArray:=List.setIfInBounds_toArray ..
theorem pZ9 {α:Type _} {x a:α} {l:List α}:(x :: l).set 0 a=a :: l:=List.set_cons_zero
theorem pS9 {α:Type _} {x a:α} {l:List α} {i:Nat}:(x :: l).set (i+1) a=x :: l.set i a:=List.set_cons_succ
open Go.RowKit
theorem block_of_add (a:Addr) (n:Nat):(a.add n).block=a.block:=by unfold Addr.add;split <;> rfl
theorem add_of_add (a:Addr) (i j:Nat):(a.add i).add j=a.add (i+j):=by
 unfold Addr.add
 by_cases hi:i=0 <;> by_cases hj:j=0 <;> simp [hi,hj,Nat.add_assoc]
def Reads (w:World) (B size:Nat) (A:Option Addr) (n:Nat) (xs:List Value):Prop :=
 xs.length=n*size∧(0<n→∃ad,A=some ad∧ad.block<B∧∀j u,xs[j]?=some u→w.cell? (ad.add j)=some u)
section
variable {w w':World} {B B' size n:Nat} {A:Option Addr} {xs:List Value}
theorem Reads.none_ : Reads w B size A 0 []:=⟨by simp,fun h=>absurd h (by omega)⟩
theorem Reads.at_ {k:Nat} (h:Reads w B 1 A n xs) (hk:k<n):∃ad u,A=some ad∧ad.block<B∧xs[k]?=some u∧w.cell? (ad.add k)=some u:=by
 obtain⟨ad,e,hb,hc⟩:=h.2 (by omega)
 have hl:k<xs.length:=by have:=h.1;omega
 exact⟨ad,xs[k],e,hb,List.getElem?_eq_getElem hl,hc k _ (List.getElem?_eq_getElem hl)⟩
theorem Reads.keep (h:Reads w B size A n xs) (hk:∀p:Addr,p.block<B→w'.cell? p=w.cell? p):Reads w' B size A n xs :=
 ⟨h.1,fun hn=>by
  obtain⟨ad,e,hb,hc⟩:=h.2 hn
  exact⟨ad,e,hb,fun j u hu=>(hk _ (by rw [block_of_add];exact hb)).trans (hc j u hu)⟩⟩
theorem Reads.more (h:Reads w B size A n xs) (hB:B≤B'):Reads w B' size A n xs :=
 ⟨h.1,fun hn=>by
  obtain⟨ad,e,hb,hc⟩:=h.2 hn
  exact⟨ad,e,by omega,hc⟩⟩
theorem Reads.below (h:Reads w B size A n xs) (hb:Below B w w'):Reads w' B size A n xs:=h.keep fun _ hp=>hb.cell hp
theorem Reads.drew (h:Reads w B size A n xs):Reads w.drew B size A n xs:=h
theorem Reads.drewN (h:Reads w B size A n xs) (k:Nat):Reads (w.drewN k) B size A n xs:=h
theorem Reads.alloc (h:Reads w B size A n xs) (hB:B≤w.heap.size) (o:Obj):Reads (w.alloc o) B size A n xs:=h.keep fun p hp=>World.cell?_alloc_lt w o p (by omega)
theorem Reads.setCell (h:Reads w B size A n xs) {p:Addr} (hB:B≤p.block) (u:Value):Reads (w.setCell p u) B size A n xs :=
 h.keep fun q hq=>World.cell?_setCell_other w p q u (fun e=>by subst e;omega)
theorem Reads.grown (h:Reads w B size A n xs) {row:Option Nat} (hg:w.grownBy w' row) (hB:B≤w.heap.size) (hr:∀g,row=some g→B≤g):Reads w' B size A n xs :=
 h.keep fun p hp=>World.cell?_of_block (hg.block p.block (by omega) (fun e=>by have:=hr _ e.symm;omega))
theorem Reads.cut (h:Reads w B size A n xs) {k cap:Nat} (hk:k≤n) (hc:n≤cap) :
 Reads w B size (if cap=k then A else A.map (·.add (k*size))) (n - k) (xs.drop (k*size)):=by
 refine⟨by rw [List.length_drop,h.1,Nat.sub_mul],fun hn=>?_⟩
 obtain⟨ad,rfl,hb,hcell⟩:=h.2 (by omega)
 rw [if_neg (by omega)]
 refine⟨ad.add (k*size),rfl,by rw [block_of_add];exact hb,fun j u hu=>?_⟩
 rw [add_of_add]
 exact hcell _ u (by rw [← hu,List.getElem?_drop])
theorem Reads.of_own {base:Nat} {e:TypeId} {c:Nat} (h:w.ownsRow base e size (.slice A n c) n xs):Reads w w.heap.size size A n xs:=by
 refine⟨h.1,fun hn=>?_⟩
 obtain⟨g,cap,hv,_,hlt⟩:=h.form hn
 have hA:A=some ⟨g,0,none⟩:=by injection hv
 subst hA
 exact⟨_,rfl,hlt,h.cells (g:=g) rfl⟩
end
def Blk (w:World) (g:Nat) (t:TypeId) (cs:Array Value):Prop:=w.heap[g]?=some (.cells cs t (0,0))
section
variable {w w':World} {g:Nat} {t:TypeId} {cs:Array Value}
theorem Blk.lt (h:Blk w g t cs):g<w.heap.size:=by
 rcases Nat.lt_or_ge g w.heap.size with hlt | hge
 · exact hlt
 · unfold Blk at h;rw [Array.getElem?_eq_none hge] at h;cases h
theorem Blk.cell (h:Blk w g t cs) (i:Nat):w.cell? ⟨g,i,none⟩=cs[i]?:=cell_of_row w g i cs t (0,0) h
theorem Blk.frozen (h:Blk w g t cs) (i:Nat):w.frozen? ⟨g,i,none⟩=false:=by
 unfold Blk at h
 simp [World.frozen?,h]
theorem Blk.new (w:World) (t:TypeId) (cs:Array Value):Blk (w.alloc (.cells cs t)) w.heap.size t cs:=heap_alloc_new w _
theorem Blk.drew (h:Blk w g t cs):Blk w.drew g t cs:=h
theorem Blk.drewN (h:Blk w g t cs) (n:Nat):Blk (w.drewN n) g t cs:=h
theorem Blk.alloc (h:Blk w g t cs) (o:Obj):Blk (w.alloc o) g t cs:=(Below.heap_alloc w o g h.lt).trans h
theorem Blk.set_ (h:Blk w g t cs) (i:Nat) (u:Value):Blk (w.setCell ⟨g,i,none⟩ u) g t (cs.setIfInBounds i u):=by
 unfold Blk at h ⊢
 simp [World.setCell,Array.getElem?_modify,h]
theorem Blk.far (h:Blk w g t cs) {p:Addr} (hp:g≠p.block) (u:Value):Blk (w.setCell p u) g t cs:=(Below.heap_setCell w p u g hp).trans h
theorem Blk.below {B:Nat} (h:Blk w g t cs) (hb:Below B w w') (hg:g<B):Blk w' g t cs:=(hb.block g hg).trans h
theorem Blk.grown {row:Option Nat} (h:Blk w g t cs) (hb:w.grownBy w' row) (hg:some g≠row):Blk w' g t cs:=(hb.block g h.lt hg).trans h
theorem Blk.ne_ {g':Nat} {t':TypeId} {cs':Array Value} (h:Blk w g t cs) (h':Blk w g' t' cs') (hne:t≠t'):g≠g':=by
 rintro rfl
 unfold Blk at h h'
 rw [h] at h'
 injection h' with h'
 injection h' with _ ht
 exact hne ht
theorem own_blk_ne {base:Nat} {e:TypeId} {size n:Nat} {v:Value} {xs:List Value} (h:w.ownsRow base e size v n xs) (hg:Blk w g t cs) (hne:e≠t):v.ownBlock≠some g:=by
 rcases h.2 with ⟨rfl,_⟩ | ⟨g',cap,cur,rfl,_,hh,_⟩
 · simp [Value.ownBlock]
 · intro he
   have:g'=g:=by simpa [Value.ownBlock] using he
   subst this
   exact Blk.ne_ (t:=e) hh hg hne rfl
end
section
variable {P:Program} (w:World)
theorem run_append_of_nil (base:Nat) (t ty e:TypeId) (i:TypeInfo) (size:Nat) (ht:P.underlying t=some (.slice e)) (hi:P.info? e=some i)
 (v:Value) (n:Nat) (xs:List Value) (hown:w.ownsRow base e size v n xs) (c:Nat):(Builtin.append_ #[t,t] ty #[v,.slice none 0 c]).run P w = .ok v w:=by
 rcases hown.2 with ⟨rfl,rfl⟩ | ⟨g,cap,cur,rfl,_,_,hnc,_⟩
 · simp [Builtin.append_,run_underlying ht,sizeOf,typeInfo,hi,Builtin.lenOf,Builtin.firstCells]
 · simp [Builtin.append_,run_underlying ht,sizeOf,typeInfo,hi,Builtin.lenOf,Builtin.firstCells,hnc,storeCells]
theorem run_append_any (base:Nat) (t ty e:TypeId) (i:TypeInfo) (z:Value) (size bytes:Nat) (ht:P.underlying t=some (.slice e)) (hi:P.info? e=some i) (hz:i.zero=some z)
 (hsize:i.size=size) (hby:i.bytes=bytes) (hzs:z.cells.size=size) (hsz:0<size)
 (v:Value) (n:Nat) (xs:List Value) (hown:w.ownsRow base e size v n xs)
 (B:Nat) (A:Option Addr) (m c:Nat) (news:List Value) (hr:Reads w B size A m news) (h1:∀u ∈ news,u.oneCell'=true)
 (h63:n+m≤maxLen) (hbytes:(n+m)*bytes≤140737488355328) (hbase:base≤w.heap.size) :
 ∃v' w',(Builtin.append_ #[t,t] ty #[v,.slice A m c]).run P w = .ok v' w'∧w'.ownsRow base e size v' (n+m) (xs ++ news)∧w.grownBy w' v.ownBlock ∧
  (v'.ownBlock=v.ownBlock∨v'.ownBlock=some w.heap.size):=by
 rcases A with _ | ad
 · have hm:m=0:=by
    rcases Nat.eq_zero_or_pos m with h0 | h0
    · exact h0
    · obtain⟨ad,h,_⟩:=hr.2 h0
      cases h
   subst hm
   have hn:news=[]:=List.eq_nil_of_length_eq_zero (by simpa using hr.1)
   subst hn
   exact⟨v,w,run_append_of_nil w base t ty e i size ht hi v n xs hown c,by simpa using hown,World.grownBy.refl w _,.inl rfl⟩
 · have hcells:∀j u,news[j]?=some u→w.cell? (ad.add j)=some u:=by
    intro j u hu
    rcases Nat.eq_zero_or_pos m with h0 | h0
    · subst h0
      have hn:news=[]:=List.eq_nil_of_length_eq_zero (by simpa using hr.1)
      subst hn
      simp at hu
    · obtain⟨ad',h,_,hc⟩:=hr.2 h0
      injection h with h
      subst h
      exact hc j u hu
   obtain⟨v',w',hrun,h2,h3,_,h5⟩:=run_append_own_at (P:=P) w base t ty e i z size bytes ht hi hz hsize hby hzs hsz v n xs hown ad m c news hr.1 hcells h1 h63 hbytes hbase
   exact⟨v',w',hrun,h2,h3,h5⟩
theorem wp_append_any {o:Oper} {a:Act} {K:Act→World→Prop} {Q:Exit→Act→World→Prop} (s x:Operand) (t:TypeId)
 (ho:o.op = .call { callee := .builtin .append,args:=#[s,x],argTypes:=#[t,t] })
 (base:Nat) (e:TypeId) (i:TypeInfo) (z:Value) (size bytes:Nat) (ht:P.underlying t=some (.slice e)) (hi:P.info? e=some i) (hz:i.zero=some z)
 (hsize:i.size=size) (hby:i.bytes=bytes) (hzs:z.cells.size=size) (hsz:0<size)
 (v:Value) (n:Nat) (xs:List Value) (hs:a.eval s=v) (hown:w.ownsRow base e size v n xs)
 (B:Nat) (A:Option Addr) (m c:Nat) (news:List Value) (hx:a.eval x = .slice A m c) (hr:Reads w B size A m news) (h1:∀u ∈ news,u.oneCell'=true)
 (h63:n+m≤maxLen) (hbytes:(n+m)*bytes≤140737488355328) (hbase:base≤w.heap.size)
 (h:∀v' w',w'.ownsRow base e size v' (n+m) (xs ++ news)→w.grownBy w' v.ownBlock→(v'.ownBlock=v.ownBlock∨v'.ownBlock=some w.heap.size)→K (a.put o.dst v') w'):o.wp P a w K Q:=by
 obtain⟨v',w',hrun,h2,h3,h4⟩:=run_append_any (P:=P) w base t o.type e i z size bytes ht hi hz hsize hby hzs hsz v n xs hown B A m c news hr h1 h63 hbytes hbase
 unfold Oper.wp execOp
 simp only [ho,resolve,invoke,builtin,Sem.run_bind,Sem.run_pure,Result.andThen_ok,List.map_toArray,List.map_cons,List.map_nil,hs,hx,hrun]
 exact h v' w' h2 h3 h4
theorem wpList_append_any {ops:Array Oper} {rest:List Oper} {o:Oper} {a:Act} {Q:Exit→Act→World→Prop} (hgd:o.guard=none) (s x:Operand) (t:TypeId)
 (ho:o.op = .call { callee := .builtin .append,args:=#[s,x],argTypes:=#[t,t] })
 (base:Nat) (e:TypeId) (i:TypeInfo) (z:Value) (size bytes:Nat) (ht:P.underlying t=some (.slice e)) (hi:P.info? e=some i) (hz:i.zero=some z)
 (hsize:i.size=size) (hby:i.bytes=bytes) (hzs:z.cells.size=size) (hsz:0<size)
 (v:Value) (n:Nat) (xs:List Value) (hs:a.eval s=v) (hown:w.ownsRow base e size v n xs)
 (B:Nat) (A:Option Addr) (m c:Nat) (news:List Value) (hx:a.eval x = .slice A m c) (hr:Reads w B size A m news) (h1:∀u ∈ news,u.oneCell'=true)
 (h63:n+m≤maxLen) (hbytes:(n+m)*bytes≤140737488355328) (hbase:base≤w.heap.size)
 (h:∀v' w',w'.ownsRow base e size v' (n+m) (xs ++ news)→w.grownBy w' v.ownBlock→(v'.ownBlock=v.ownBlock∨v'.ownBlock=some w.heap.size)→wpList P ops Q rest (a.put o.dst v') w'):wpList P ops Q (o :: rest) a w :=
 wpList_plain hgd fun _ hK=>wp_append_any w s x t ho base e i z size bytes ht hi hz hsize hby hzs hsz v n xs hs hown B A m c news hx hr h1 h63 hbytes hbase fun v' w' h2 h3 h4=>hK _ _ (h v' w' h2 h3 h4)
theorem step_append_any {ops:Array Oper} {o:Oper} {a:Act} {K:Act→World→Prop} {Q:Exit→Act→World→Prop} {E:Prop} (hgd:o.guard=none) (s x:Operand) (t:TypeId)
 (ho:o.op = .call { callee := .builtin .append,args:=#[s,x],argTypes:=#[t,t] })
 (base:Nat) (e:TypeId) (i:TypeInfo) (z:Value) (size bytes:Nat) (ht:P.underlying t=some (.slice e)) (hi:P.info? e=some i) (hz:i.zero=some z)
 (hsize:i.size=size) (hby:i.bytes=bytes) (hzs:z.cells.size=size) (hsz:0<size)
 (v:Value) (n:Nat) (xs:List Value) (hs:a.eval s=v) (hown:w.ownsRow base e size v n xs)
 (B:Nat) (A:Option Addr) (m c:Nat) (news:List Value) (hx:a.eval x = .slice A m c) (hr:Reads w B size A m news) (h1:∀u ∈ news,u.oneCell'=true)
 (h63:n+m≤maxLen) (hbytes:(n+m)*bytes≤140737488355328) (hbase:base≤w.heap.size)
 (h:∀v' w',w'.ownsRow base e size v' (n+m) (xs ++ news)→w.grownBy w' v.ownBlock→(v'.ownBlock=v.ownBlock∨v'.ownBlock=some w.heap.size)→K (a.put o.dst v') w') :
 if Region.wanted o (yielded ops a.tmps)=true then Oper.wp P o a w K Q else E:=by
 have hw:Region.wanted o (yielded ops a.tmps)=true:=by simp [Region.wanted,hgd]
 rw [if_pos hw]
 exact wp_append_any w s x t ho base e i z size bytes ht hi hz hsize hby hzs hsz v n xs hs hown B A m c news hx hr h1 h63 hbytes hbase h
end
theorem ret_int {k:IntKind} {a b:Int} (h:a=b):Ending.returned (.int k a) = .returned (.int k b):=by rw [h]
theorem bel_drewN {B:Nat} {a w:World} (h:Below B a w) (n:Nat):Below B a (w.drewN n):=⟨h.os,h.tape,h.output,h.size,h.block⟩
def bv (x:Nat):Value := .int .u8 (x:Int)
def Byt (xs:List Nat):Prop:=∀x ∈ xs,x<256
theorem bv_one (xs:List Nat):∀u ∈ xs.map bv,u.oneCell'=true:=by
 intro u hu
 obtain⟨x,_,rfl⟩:=List.mem_map.1 hu
 rfl
theorem Byt.get {xs:List Nat} (h:Byt xs) {k:Nat} (hk:k<xs.length):xs[k]<256:=h _ (List.getElem_mem hk)
theorem Byt.append {xs ys:List Nat} (h:Byt xs) (h':Byt ys):Byt (xs ++ ys):=by
 intro x hx
 rcases List.mem_append.1 hx with h1 | h1
 · exact h x h1
 · exact h' x h1
theorem Byt.take {xs:List Nat} (h:Byt xs) (k:Nat):Byt (xs.take k):=fun x hx=>h x (List.mem_of_mem_take hx)
theorem Byt.drop {xs:List Nat} (h:Byt xs) (k:Nat):Byt (xs.drop k):=fun x hx=>h x (List.mem_of_mem_drop hx)
theorem Reads.byte {w:World} {B n:Nat} {A:Option Addr} {xs:List Nat} (h:Reads w B 1 A n (xs.map bv)) {k:Nat} (hk:k<xs.length) :
 ∃ad,A=some ad∧ad.block<B∧w.cell? (ad.add k)=some (.int .u8 (xs[k]:Nat)):=by
 have hn:xs.length=n:=by simpa using h.1
 obtain⟨ad,u,e,hb,hx,hc⟩:=h.at_ (k:=k) (by omega)
 refine⟨ad,e,hb,?_⟩
 rw [hc,← hx,List.getElem?_map,List.getElem?_eq_getElem hk]
 rfl
def Ints (k:IntKind) (w:World) (A:Option Addr) (len cap:Nat) (zs:List Int):Prop :=
 Reads w w.heap.size 1 A len (zs.map (.int k))∧(∀z ∈ zs,(Lit.int k z).wf=true)∧zs.length=len∧len≤cap∧cap≤maxLen
theorem Ints.bytes {w:World} {A:Option Addr} {len cap:Nat} {zs:List Int} (h:Ints .u8 w A len cap zs) :
 ∃xs:List Nat,Byt xs∧xs.length=len∧Reads w w.heap.size 1 A len (xs.map bv)∧len≤cap∧cap≤maxLen:=by
 obtain⟨hr,hw,hl,hc,hm⟩:=h
 have hz:∀z ∈ zs,0≤z∧z≤255:=fun z hz=>by simpa [Lit.wf,IntKind.min,IntKind.max,IntKind.signed,IntKind.bits] using hw z hz
 refine⟨zs.map Int.toNat,?_,by simpa using hl,?_,hc,hm⟩
 · intro x hx
   obtain⟨z,hz',rfl⟩:=List.mem_map.1 hx
   have:=hz z hz'
   omega
 · have e:(zs.map Int.toNat).map bv=zs.map (.int .u8):=by
    rw [List.map_map]
    refine List.map_congr_left fun z hz'=>?_
    have:=hz z hz'
    show Value.int .u8 ((z.toNat:Nat):Int)=_
    rw [Int.toNat_of_nonneg this.1]
   rw [e];exact hr
def strOf (xs:List Nat):ByteArray:=⟨(xs.map UInt8.ofNat).toArray⟩
theorem foldl_push (ns:List Int):∀s:ByteArray,ns.foldl (fun r n=>r.push (UInt8.ofNat n.toNat)) s=⟨s.data ++ (ns.map fun n=>UInt8.ofNat n.toNat).toArray⟩:=by
 induction ns with
 | nil=>intro s;simp
 | cons n ns ih=>intro s;rw [List.foldl_cons,ih];simp [ByteArray.push]
theorem run_conv_bytes {P:Program} {w:World} {src dst e:TypeId} {A:Option Addr} {n cap B:Nat} {xs:List Nat} (hs:P.underlying src=some (.slice e)) (he:P.underlying e=some (.int .u8)) (hd:P.underlying dst=some .string)
 (hr:Reads w B 1 A n (xs.map bv)):(convert src dst (.slice A n cap)).run P w = .ok (.string (strOf xs)) w:=by
 rw [run_convert_bytes_string w src dst e A n cap hs he hd]
 have hn:xs.length=n:=by simpa using hr.1
 rcases A with _ | ad
 · have h0:n=0:=by
    rcases Nat.eq_zero_or_pos n with h | h
    · exact h
    · obtain⟨_,h1,_⟩:=hr.2 h;cases h1
   subst h0
   obtain rfl:=List.eq_nil_of_length_eq_zero hn
   rfl
 · have hc:∀j v,(xs.map bv)[j]?=some v→w.cell? (ad.add j)=some v:=by
    intro j v hv
    rcases Nat.eq_zero_or_pos n with h | h
    · subst h
      obtain rfl:=List.eq_nil_of_length_eq_zero hn
      simp at hv
    · obtain⟨ad',h1,_,h2⟩:=hr.2 h
      injection h1 with h1
      subst h1
      exact h2 j v hv
   have h:=run_loadCells_list (P:=P) w ad (xs.map bv) hc
   rw [List.length_map,hn] at h
   have e1:xs.map bv=(xs.map fun x:Nat=>(x:Int)).map (Value.int .u8):=by rw [List.map_map];rfl
   rw [e1] at h
   rw [run_bytesToString w ad n cap (xs.map fun x:Nat=>(x:Int)) h,foldl_push]
   simp [strOf,ByteArray.empty,ByteArray.emptyWithCapacity,Function.comp_def]
   rfl
theorem map_ofNat_inj {xs ys:List Nat} (hx:Byt xs) (hy:Byt ys) (h:xs.map UInt8.ofNat=ys.map UInt8.ofNat):xs=ys:=by
 have hb:∀l:List Nat,Byt l→(l.map UInt8.ofNat).map UInt8.toNat=l:=by
  intro l hl
  rw [List.map_map]
  conv=>rhs;rw [← List.map_id l]
  refine List.map_congr_left fun x hx=>?_
  have:=hl x hx
  simp [UInt8.toNat_ofNat']
  omega
 have:=congrArg (List.map UInt8.toNat) h
 rwa [hb xs hx,hb ys hy] at this
theorem strOf_beq {xs ys:List Nat} (hx:Byt xs) (hy:Byt ys):((strOf xs).toList == (strOf ys).toList)=decide (xs=ys):=by
 rw [ByteArray.toList_eq,ByteArray.toList_eq]
 simp only [strOf]
 by_cases h:xs=ys
 · subst h;simp
 · rw [decide_eq_false h]
   exact beq_eq_false_iff_ne.2 fun e=>h (map_ofNat_inj hx hy e)
def RetS (t:TypeId) (xs:List Value) (w:World) (e:Ending) (w':World):Prop :=
 ∃v,e = .returned v∧w'.ownsRow w.heap.size t 1 v xs.length xs∧Below w.heap.size w w'
theorem own_slice {w:World} {base:Nat} {t:TypeId} {size n:Nat} {v:Value} {xs:List Value} (h:w.ownsRow base t size v n xs):∃A cap,v = .slice A n cap∧n≤cap∧cap≤maxLen:=by
 rcases h.2 with ⟨rfl,rfl⟩ | ⟨g,cap,cur,rfl,_,_,hc,hm,_⟩
 · exact⟨none,0,rfl,Nat.le_refl _,by unfold maxLen;omega⟩
 · exact⟨_,cap,rfl,hc,hm⟩
theorem RetS.open {t:TypeId} {xs:List Value} {w w':World} {e:Ending} (h:RetS t xs w e w') :
 ∃A cap,e = .returned (.slice A xs.length cap)∧Reads w' w'.heap.size 1 A xs.length xs∧xs.length≤cap∧cap≤maxLen∧Below w.heap.size w w'∧w'.ownsRow w.heap.size t 1 (.slice A xs.length cap) xs.length xs:=by
 obtain⟨v,rfl,ho,hb⟩:=h
 obtain⟨A,cap,rfl,h1,h2⟩:=own_slice ho
 exact⟨A,cap,rfl,Reads.of_own ho,h1,h2,hb,ho⟩
theorem Reads.later {w w':World} {size n:Nat} {A:Option Addr} {xs:List Value} (h:Reads w w.heap.size size A n xs) (hb:Below w.heap.size w w'):Reads w' w'.heap.size size A n xs:=(h.below hb).more hb.size
theorem Reads.lit (w:World) (t:TypeId) (cs:List Value) (size:Nat) (n:Nat) (h:cs.length=n*size):Reads (w.alloc (.cells cs.toArray t)) (w.heap.size+1) size (some ⟨w.heap.size,0,none⟩) n cs:=by
 refine⟨h,fun _=>⟨_,rfl,by simp,fun j u hu=>?_⟩⟩
 rw [show (⟨w.heap.size,0,none⟩:Addr).add j=⟨w.heap.size,j,none⟩ from by unfold Addr.add;split <;> simp_all]
 rw [World.cell?_alloc_new]
 simpa using hu
theorem Reads.lit1 (w:World) (t:TypeId) (u:Value):Reads (w.alloc (.cells #[u] t)) (w.heap.size+1) 1 (some ⟨w.heap.size,0,none⟩) 1 [u]:=Reads.lit w t [u] 1 1 rfl
theorem Byt.getD {xs:List Nat} (h:Byt xs) (k:Nat):xs.getD k 0<256:=by
 rcases Nat.lt_or_ge k xs.length with hk | hk
 · rw [List.getD_eq_getElem?_getD,List.getElem?_eq_getElem hk];exact h _ (List.getElem_mem hk)
 · rw [List.getD_eq_getElem?_getD,List.getElem?_eq_none hk];decide
theorem Reads.byteD {w:World} {B n:Nat} {A:Option Addr} {xs:List Nat} (h:Reads w B 1 A n (xs.map bv)) {k:Nat} (hk:k<n) :
 ∃ad,A=some ad∧ad.block<B∧w.cell? (ad.add k)=some (.int .u8 (xs.getD k 0:Nat)):=by
 have hn:xs.length=n:=by simpa using h.1
 obtain⟨ad,e,hb,hc⟩:=h.byte (k:=k) (by omega)
 refine⟨ad,e,hb,?_⟩
 rw [hc,List.getD_eq_getElem?_getD,List.getElem?_eq_getElem (by omega)]
 rfl
theorem take_snocD (xs:List Nat) (k:Nat) (h:k<xs.length):xs.take (k+1)=xs.take k ++ [xs.getD k 0]:=by
 rw [List.take_succ_eq_append_getElem h,List.getD_eq_getElem?_getD,List.getElem?_eq_getElem h];rfl
theorem bel_grown_own {base:Nat} {w0 w w':World} {e:TypeId} {size n:Nat} {v:Value} {xs:List Value} (hB:Below base w0 w) (hbase:base≤w.heap.size) (hown:w.ownsRow base e size v n xs) (hg:w.grownBy w' v.ownBlock):Below base w0 w' :=
 hB.grown hg hbase fun k hk=>(hown.lt k hk).1
theorem wpl_append {P:Program} {w:World} {ops:Array Oper} {rest:List Oper} {o:Oper} {a:Act} {Q:Exit→Act→World→Prop} (hgd:o.guard=none) (s x:Operand) (t:TypeId)
 (ho:o.op = .call { callee := .builtin .append,args:=#[s,x],argTypes:=#[t,t] })
 (w0:World) (base:Nat) (e:TypeId) (z:Value) (size bytes:Nat) (ht:P.underlying t=some (.slice e)) (hinfo:(P.info? e).map (fun i=>(i.zero,i.size,i.bytes))=some (some z,size,bytes)) (hzs:z.cells.size=size) (hsz:0<size)
 (v:Value) (n:Nat) (xs:List Value) (hs:a.eval s=v) (hown:w.ownsRow base e size v n xs)
 (B:Nat) (A:Option Addr) (m c:Nat) (news:List Value) (hx:a.eval x = .slice A m c) (hr:Reads w B size A m news) (h1:∀u ∈ news,u.oneCell'=true)
 (hbytes:(n+m)*bytes≤140737488355328) (hb0:0<bytes) (hB:Below base w0 w) (hbase:base≤w.heap.size)
 (h:∀v' w',Hid (w'.ownsRow base e size v' (n+m) (xs ++ news)∧Below base w0 w'∧base≤w'.heap.size)→wpList P ops Q rest (a.put o.dst v') w'):wpList P ops Q (o :: rest) a w:=by
 obtain⟨i,hi,h2,h3,h4⟩:=info_parts hinfo
 have h63:n+m≤maxLen:=by
  have:n+m≤(n+m)*bytes:=Nat.le_mul_of_pos_right _ hb0
  unfold maxLen;omega
 exact wpList_append_any w hgd s x t ho base e i z size bytes ht hi h2 h3 h4 hzs hsz v n xs hs hown B A m c news hx hr h1 h63 hbytes hbase
  fun v' w' k1 k2 _=>h v' w' ⟨k1,bel_grown_own hB hbase hown k2,Nat.le_trans hbase k2.size⟩
theorem step_append {P:Program} {w:World} {ops:Array Oper} {o:Oper} {a:Act} {K:Act→World→Prop} {Q:Exit→Act→World→Prop} {E:Prop} (hgd:o.guard=none) (s x:Operand) (t:TypeId)
 (ho:o.op = .call { callee := .builtin .append,args:=#[s,x],argTypes:=#[t,t] })
 (w0:World) (base:Nat) (e:TypeId) (z:Value) (size bytes:Nat) (ht:P.underlying t=some (.slice e)) (hinfo:(P.info? e).map (fun i=>(i.zero,i.size,i.bytes))=some (some z,size,bytes)) (hzs:z.cells.size=size) (hsz:0<size)
 (v:Value) (n:Nat) (xs:List Value) (hs:a.eval s=v) (hown:w.ownsRow base e size v n xs)
 (B:Nat) (A:Option Addr) (m c:Nat) (news:List Value) (hx:a.eval x = .slice A m c) (hr:Reads w B size A m news) (h1:∀u ∈ news,u.oneCell'=true)
 (hbytes:(n+m)*bytes≤140737488355328) (hb0:0<bytes) (hB:Below base w0 w) (hbase:base≤w.heap.size)
 (h:∀v' w',Hid (w'.ownsRow base e size v' (n+m) (xs ++ news)∧Below base w0 w'∧base≤w'.heap.size)→K (a.put o.dst v') w') :
 if Region.wanted o (yielded ops a.tmps)=true then Oper.wp P o a w K Q else E:=by
 obtain⟨i,hi,h2,h3,h4⟩:=info_parts hinfo
 have h63:n+m≤maxLen:=by
  have:n+m≤(n+m)*bytes:=Nat.le_mul_of_pos_right _ hb0
  unfold maxLen;omega
 exact step_append_any w hgd s x t ho base e i z size bytes ht hi h2 h3 h4 hzs hsz v n xs hs hown B A m c news hx hr h1 h63 hbytes hbase
  fun v' w' k1 k2 _=>h v' w' ⟨k1,bel_grown_own hB hbase hown k2,Nat.le_trans hbase k2.size⟩
theorem slice_from {P:Program} {t e:TypeId} {i:TypeInfo} {size:Nat} (ht:P.underlying t=some (.slice e)) (hi:P.info? e=some i) (hs:i.size=size) (A:Option Addr) (n cap k:Nat) (hk:k≤n) (hn:n≤cap) (W:World) :
 (Instr.sliceAt t (.slice A n cap) (some (.int .i64 (k:Int))) none none).run P W = .ok (.slice (if cap=k then A else A.map (·.add (k*size))) (n - k) (cap - k)) W:=by
 have e1:0≤(k:Int)∧(k:Int)≤n:=by omega
 simp [Instr.sliceAt,run_underlying ht,Instr.slice,Instr.sliceBounds,Instr.sliceBound,asIntOf,sizeOf,typeInfo,hi,hs,e1]
 intro h;omega
theorem slice_to {P:Program} {t e:TypeId} {i:TypeInfo} {size:Nat} (ht:P.underlying t=some (.slice e)) (hi:P.info? e=some i) (hs:i.size=size) (A:Option Addr) (n cap k:Nat) (hk:k≤cap) (W:World) :
 (Instr.sliceAt t (.slice A n cap) none (some (.int .i64 (k:Int))) none).run P W = .ok (.slice A k cap) W:=by
 have e1:0≤(k:Int)∧(k:Int)≤cap:=by omega
 have e2:(if cap=0 then A else A.map (·.add 0))=A:=by
  split
  · rfl
  · cases A <;> rfl
 simp [Instr.sliceAt,run_underlying ht,Instr.slice,Instr.sliceBounds,Instr.sliceBound,asIntOf,sizeOf,typeInfo,hi,e1,e2]
 intro h;omega
theorem slice_both {P:Program} {t e:TypeId} {i:TypeInfo} {size:Nat} (ht:P.underlying t=some (.slice e)) (hi:P.info? e=some i) (hs:i.size=size) (A:Option Addr) (n cap j k:Nat) (hj:j≤k) (hk:k≤cap) (W:World) :
 (Instr.sliceAt t (.slice A n cap) (some (.int .i64 (j:Int))) (some (.int .i64 (k:Int))) none).run P W = .ok (.slice (if cap=j then A else A.map (·.add (j*size))) (k - j) (cap - j)) W:=by
 have e1:0≤(k:Int)∧(k:Int)≤cap:=by omega
 have e2:0≤(j:Int)∧(j:Int)≤k:=by omega
 simp [Instr.sliceAt,run_underlying ht,Instr.slice,Instr.sliceBounds,Instr.sliceBound,asIntOf,sizeOf,typeInfo,hi,hs,e1,e2]
 rw [if_pos hk,if_pos hj]
end Go.Proofs.YtdoneomahlfkbaaGreat
end
section
namespace Go.Proofs.YtdoneomahlfkbaaGreat
open Go.RowKit
def iv (x:Int):Value := .int .i64 x
theorem Tryz.infoI64:(Tryz.prog.info? 3).map (fun i=>(i.zero,i.size,i.bytes))=some (some (.int .i64 0),1,8):=by kernel_rfl
def mcells (ms:List (Int×Int)):List Value:=ms.flatMap fun p=>[iv p.1,iv p.2]
theorem mcells_len (ms:List (Int×Int)):(mcells ms).length=ms.length*2:=by
 induction ms with
 | nil=>rfl
 | cons p l ih=>show (iv p.1 :: iv p.2 :: mcells l).length=_;simp only [List.length_cons];omega
end Go.Proofs.YtdoneomahlfkbaaGreat
end
section
namespace Go.Proofs.YtdoneomahlfkbaaGreat
open Go.RowKit OctMath
structure OM where
 x:ObjT
 A:Option Addr
 c:Nat
def omCs (m:OM):List Value:=(#[.string (strOf m.x.key),.int .u64 (m.x.version:Int),.int .i64 m.x.size,.int .u32 (m.x.sum:Int),.int .i64 m.x.group,.int .u64 (m.x.epoch:Int),.slice m.A m.x.nodes.length m.c]:Array Value).toList
structure IM where
 x:IntT
 A:Option Addr
 c:Nat
def imCs (m:IM):List Value:=(#[.string (strOf m.x.obj.key),.int .u64 (m.x.obj.version:Int),.int .i64 m.x.obj.size,.int .u32 (m.x.obj.sum:Int),.int .i64 m.x.obj.group,.int .u64 (m.x.obj.epoch:Int),.slice m.A m.x.obj.nodes.length m.c,.int .u64 (m.x.client:Int),.int .u64 (m.x.seq:Int)]:Array Value).toList
def sesCs (x:SesT):Array Value:=#[.int .u64 (x.client:Int),.int .u64 (x.seq:Int),.bool x.opn,.int .u64 (x.version:Int),.int .i64 x.code]
def sesL (x:SesT):List Value:=(sesCs x).toList
def wasCs (x:WasT):Array Value:=#[.int .u64 (x.id.ver:Int),.int .i64 x.id.idx,.int .u64 (x.id.ep:Int),.int .i64 x.node]
def wasL (x:WasT):List Value:=(wasCs x).toList
structure MM where
 x:MetT
 MA:Option Addr
 mc:Nat
 NA:Option Addr
 nc:Nat
 CA:Option Addr
 cc:Nat
 OA:Option Addr
 oc:Nat
 IA:Option Addr
 ic:Nat
 SA:Option Addr
 sc:Nat
 WA:Option Addr
 wc:Nat
 DA:Option Addr
 dc:Nat
 os:List OM
 is:List IM
def MM.cs (m:MM):Array Value:=#[.int .i64 m.x.k,.int .i64 m.x.n,.int .i64 m.x.groups,.int .u64 (m.x.mep:Int),.slice m.MA m.x.mem.length m.mc,.int .u64 (m.x.nep:Int),.slice m.NA m.x.nem.length m.nc,.slice m.CA m.x.cut.length m.cc,.slice m.OA m.x.objs.length m.oc,.slice m.IA m.x.ints.length m.ic,.slice m.SA m.x.sess.length m.sc,.slice m.WA m.x.wass.length m.wc,.slice m.DA m.x.down.length m.dc,.int .u64 (m.x.last:Int)]
def cmdCs (x:CmdT) (A:Option Addr) (c:Nat):Array Value:=#[.int .i64 x.kind,.int .u64 (x.client:Int),.int .u64 (x.seq:Int),.string (strOf x.key),.int .i64 x.size,.int .u32 (x.sum:Int),.int .u64 (x.version:Int),.int .u64 (x.epoch:Int),.int .i64 x.group,.int .i64 x.node,.bool x.up,.int .u64 (x.id.ver:Int),.int .i64 x.id.idx,.int .u64 (x.id.ep:Int),.int .u64 (x.mep:Int),.slice A x.mem.length c]
end Go.Proofs.YtdoneomahlfkbaaGreat
end
