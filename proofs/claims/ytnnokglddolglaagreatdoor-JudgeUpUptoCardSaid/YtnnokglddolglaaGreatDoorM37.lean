/- Lemmas for the last texts. -/
import Derived.Test.YtnnokglddolglaaGreatDoorM27
import Derived.Test.YtnnokglddolglaaGreatDoorM29
set_option maxHeartbeats 2000000
set_option maxRecDepth 100000
namespace Go.Proofs
open Go.Shelf
def Tryz.lays169_ren:Go.Shelf.Ren:=⟨λ|169=>63|n=>n,λ|70=>139|9=>9|0=>0|72=>142|37=>140|127=>174|3=>3|5=>5|n=>n,λ|n=>n⟩
theorem Tryz.lays169:Go.Proofs.Lays.n169 Tryz.prog Tryz.lays169_ren:=by constructor<;>first|kernel_rfl|(intro _;kernel_rfl)
theorem Tryz.Builder_Extra_169:Builder.Extra Tryz.prog Tryz.lays169_ren:=by constructor<;>first|kernel_rfl|(intro _;kernel_rfl)|decide|(constructor<;>first|kernel_rfl|(intro _;kernel_rfl)|decide)
open Go.RowKit in
theorem Tryz.Builder_String_any(B b:Nat)(l:List UInt8)(w:World)(h:Lib.IsBuilder 142 5 B b (Lib.byteCells l) w)(a:B<=w.heap.size):
 Calls Tryz.prog 63 #[.pointer (some ⟨b,0,none⟩)] w λe w'=>e=.returned (.string ⟨l.toArray⟩)/\Below B w w':=Any.Builder_String_any Tryz.lays169 Tryz.Builder_Extra_169 B b l w h a
def Tryz.lays143_ren:Go.Shelf.Ren:=⟨λ|143=>59|219=>92|217=>124|225=>125|224=>126|267=>127|266=>164|314=>165|n=>n,λ|9=>9|3=>3|4=>4|5=>5|46=>213|146=>263|51=>30|n=>n,λ|1=>0|n=>n⟩
theorem Tryz.lays143:Go.Proofs.Lays.n143 Tryz.prog Tryz.lays143_ren:=by constructor<;>first|kernel_rfl|(intro _;kernel_rfl)
open Go.RowKit Go.Lib in
theorem Tryz.strings_Index(s a:ByteArray)(m:Int)(w:World)(c:s.size<4294967281)(b:w.cell? ⟨0,0,none⟩=some (.int .i64 m)):
 Calls Tryz.prog 59 #[.string s,.string a] w λe w'=>e=.returned (.int .i64 (Lib.index s.data.toList a.data.toList))/\w'=w:=Any.strings_Index Tryz.lays143 s a m w c b
open Go.Lib in
theorem Tryz.slices_Contains_string_empty(a:Option Addr)(c:Nat)(x:ByteArray)(w:World):
 Calls Tryz.prog 90 #[.slice a 0 c,.string x] w λe w'=>e=.returned (.bool false)/\w'=w:=Any.slices_Contains_string_empty Tryz.lays110 a c x w
end Go.Proofs
namespace Go.Proofs.YtnnokglddolglaaGreatDoor
open Go.RowKit
theorem Sl.alloc{w:World}{B size n:Nat}{A:Option Addr}{a:List Value}(h:Sl w B size A n a)(b:B<=w.heap.size)(o:Obj):Sl (w.alloc o) B size A n a:=
 h.below ((Qg _ _).alloc b _)
theorem zkY{W w':World}{cs:Array Value}{t:TypeId}(hb:Below (W.alloc (.cells cs t)).heap.size (W.alloc (.cells cs t)) w')(j:Nat):w'.frozen? ⟨W.heap.size,j,none⟩=false:=by
 have a:=(hb.block W.heap.size (by simp)).trans (Qp W (.cells cs t));simp[World.frozen?, a]
theorem Sl.lit{W:World}{cs:Array Value}{t:TypeId}{g B n size:Nat}{a:List Value}(c:W.heap.size=g)(d:g<B)(e:cs.toList=a)(h:a.length=n*size):Sl (W.alloc (.cells cs t)) B size (some ⟨g,0,none⟩) n a:=by
 subst c;subst e
 exact⟨h,λ_=>⟨_,0,rfl,d,λj b=>by rw[Zc,Qf (W.alloc (.cells cs t)) W.heap.size j cs t (0,0) (Qp W _)];simp[Array.getElem?_eq_getElem (by simpa using b:j<cs.size)]⟩⟩
theorem OwnS.far{w:World}{base g:Nat}{v:Value}{l:List ByteArray}(h:OwnS w base v l)(b:∀k,v.ownBlock=some k->k≠g)(j:Nat)(x:Value):OwnS (w.setCell ⟨g,j,none⟩ x) base v l:=
 ownsRow_setCell_other (a:=⟨g,j,none⟩) h (λe=>b g e rfl) x
def tt(l:List Bool)(j:Nat):Bool:=l.getD j false
theorem zig(c:UInt8)(s t:List UInt8):splL c (s++c::t)=splL c s++splL c t:=by
 induction s with
 |nil=>show splL c (c::t)=[]::splL c t;simp[splL]
 |cons b s ih=>
  have a:∀l,splL c (b::l)=if b=c then []::splL c l else match splL c l with | []=>[[b]]|x::r=>(b::x)::r:=λl=>by rw[splL];rfl
  rw[ZS,a,a,ih]
  split
  ·rfl
  ·cases h:splL c s with
   |nil=>exact absurd h (zlz c s)
   |cons x r=>rfl
def zfX:List UInt8:=[33,35,36,37,38,39,42,43,45,46,94,95,124,126,96]
def tokB(b:UInt8):Bool:=letB b||decide (0<=Lib.indexByte zfX b)
def zdp(l:List UInt8):Bool:=!l.isEmpty&&l.all tokB
def zzl(s:ByteArray)(i:Value):Prop:=∃k:Nat,k<=s.size/\i=.int .i64 k/\s.data.toList.all tokB=(s.data.toList.drop k).all tokB
theorem zxq{b:UInt8}{c i:Int}(a:c=(b|||32).toNat)(d:i=Lib.indexByte zfX b)(h:(97<=c/\c<=122)\/(48<=(b.toNat:Int)/\(b.toNat:Int)<=57)\/0<=i):tokB b=true:=by
 subst d;subst a
 unfold tokB letB;simp only[Xo,QW,QY];omega
theorem zzs{b:UInt8}{c i:Int}(a:c=(b|||32).toNat)(d:i=Lib.indexByte zfX b)(h:¬((97<=c/\c<=122)\/(48<=(b.toNat:Int)/\(b.toNat:Int)<=57)\/0<=i)):tokB b=false:=by
 subst d;subst a
 unfold tokB letB;simp only[Xv,Bool.and_eq_false_iff,decide_eq_false_iff_not];omega
theorem zuq(s:ByteArray)(w:World)(u:s.size<=maxLen):
 Calls Tryz.prog 87 #[.string s] w λe w'=>e=.returned (.bool (zdp s.data.toList))/\w'=w:=by
 unfold maxLen at u;have n:Hid (s.data.toList.length=s.size):=by unfold Hid;simp
 go_in
 go_wp2_with fail
 go_loop [8] (λi=>zzl s i) (λi=>s.size-(intOf i).toNat)
 case atStart=>exact⟨0,Qm _,rfl,rfl⟩
 case round=>
  obtain⟨k,x,rfl,o⟩:=hrel;have a:=hIx o;clear o
  by_cases d:k<s.size
  ·have m:=hIx (zaG s k d)
   have f:Hid (s.data.toList.isEmpty=false):=by
    unfold Hid;cases h:s.data.toList with
    |nil=>have:=n.out;rw[h]at this;simp at this;omega
    |cons _ _=>rfl
   have r:=s[k].toNat_lt;obtain⟨c,j⟩:∃c:Int,c=(s[k]|||32).toNat:=⟨_,rfl⟩
   have t:bits BinOp.or IntKind.u8 (s[k].toNat:Int) 32=c:=by
    rw[j,UInt8.toNat_or];exact u8_or_nat _ _ s[k].toNat_lt (by decide)
   have l:=hIx j;clear j;obtain⟨p,q⟩:∃p:Int,p=Lib.indexByte zfX s[k]:=⟨_,rfl⟩
   have b:=hIx q;clear q;go_wp2_with (go_at_call 122;refine(Tryz.strings_IndexByte _ _ _).mono ?_;rintro e w' ⟨rfl,rfl⟩;rw[zew,show (ByteArray.mk #[33,35,36,37,38,39,42,43,45,46,94,95,124,126,96]).data.toList=zfX from rfl,<-b.out])
   all_goals first
    |(
     go_ret
     exact⟨zaI (by unfold zdp;rw[f.out,a.out,m.out,ZT,zzs l.out b.out (by omega)];rfl),rfl⟩)
    |(
     try simp only[Bool.not_eq_eq_eq_not,Bool.not_false,QY]at *
     exact⟨⟨k+1,by omega,by go_num,by rw[a.out,m.out,ZT,zxq l.out b.out (by omega)];rfl⟩,by simp[intOf];omega⟩)
    |(
     go_round
     case rel=>exact⟨k+1,by omega,by go_num,by rw[a.out,m.out,ZT,zxq l.out b.out (by omega)];rfl⟩
     case measure=>simp[intOf] <;> omega)
  ·have g:k=s.size:=by omega
   have v:Hid (s.data.toList.all tokB=true):=by
    unfold Hid;rw[a.out,QP (by rw[n.out];omega)];rfl
   clear g
   go_wp2
   go_ret;exact⟨zaI (by unfold zdp;rw[QS,v.out,Bool.and_true]),rfl⟩
theorem zj0(base:Int)(b:UInt8):∀(l:List UInt8) (a v:Int),zby base l a=some v->¬(zat b<0\/base<=zat b)->zby base (l++[b]) a=some (v*base+zat b)
 | [],a,v,h,hb=>by
  cases h;rw[Xa,zby,Qe hb];rfl
 |c::l,a,v,h,hb=>by
  rw[zby]at h
  split at h
  ·cases h
  ·rename_i d
   rw[ZS,zby,Qe d];exact zj0 base b l _ v h hb
theorem zgy(d:Nat)(h:d<10):zat (UInt8.ofNat (48+d))=(d:Int):=by
 have h:∀d:Fin 10,zat (UInt8.ofNat (48+d.val))=(d.val:Int):=by decide
 exact h ⟨d,by omega⟩
theorem zvX(u:Nat):zby 10 (Lib.decDigits u) 0=some (u:Int):=by
 induction u using Nat.strongRecOn with
 |ind u ih=>
  rw[Lib.decDigits]
  split
  ·rename_i h
   rw[zby,zgy u h,Qe (by omega),zby]
   congr 1;omega
  ·rename_i h
   have e:=ih (u / 10) (by omega);rw[zj0 10 _ _ _ _ e (by rw[zgy _ (XT _ (by decide))];omega),zgy _ (XT _ (by decide))]
   congr 1;omega
theorem zye(u:Nat)(h:u<1000000000):numL 10 9 (Lib.decDigits u)=some (u:Int):=by
 have:=zil 8 u (by simpa using h);unfold numL;rw[Qe (by omega),zvX]
theorem zjP(l:List zao):∀u∈l.flatMap zaL,u.oneCell'=true:=λu a=>by
 obtain⟨x,_,h⟩:=List.mem_flatMap.1 a;simp only[zaL,QJ,ZR,X0]at h
 rcases h with rfl|rfl <;> rfl
def OwnV(w:World)(base:Nat)(v:Value)(l:List zao):Prop:=w.ownsRow base 133 2 v l.length (l.flatMap zaL)
theorem OwnV.nil(w:World)(base:Nat):OwnV w base (.slice none 0 0) []:=ZI w base 133 2
theorem OwnV.below{w w':World}{base:Nat}{v:Value}{l:List zao}(h:OwnV w base v l)(hb:Below w.heap.size w w'):OwnV w' base v l:=zaP h hb
theorem OwnV.keep{w w':World}{base:Nat}{v:Value}{l:List zao}(h:OwnV w base v l)(b:∀g,v.ownBlock=some g->w'.heap[g]? = w.heap[g]?):OwnV w' base v l:=by
 refine⟨h.1,?_⟩
 rcases h.2 with d|⟨g,cap,a,h1,h2,e,c⟩
 ·exact .inl d
 ·exact .inr ⟨g,cap,a,h1,h2,(b g (by rw[h1];rfl)).trans e,c⟩
theorem OwnV.low{w:World}{base b:Nat}{v:Value}{l:List zao}(h:OwnV w base v l)(hb:b<=base):OwnV w b v l:=
 ⟨h.1,h.2.imp_right λ⟨g,cap,a,h1,h2,c⟩=>⟨g,cap,a,h1,Qn hb h2,c⟩⟩
theorem OwnV.form{w:World}{base:Nat}{v:Value}{l:List zao}(h:OwnV w base v l):∃A c,v=.slice A l.length c/\Sl w w.heap.size 2 A l.length (l.flatMap zaL):=by
 rcases h.2 with ⟨h1,h2⟩|⟨g,cap,a,h1,hb,e,_⟩
 ·have:l=[]:=QA h2
  subst this;exact⟨none,0,h1,Sl.nil _ _ _ _⟩
 ·refine⟨_,_,h1,zjZ l,λd=>⟨g,0,rfl,?_,λj b=>?_⟩⟩
  ·exact(QK h g (by rw[h1];simp[Value.ownBlock])).2
  ·have:=Zx (g:=g) h (by rw[h1];simp[Value.ownBlock]) j _ (Qc b)
   rw[zbq]at this;rw[Zc];exact this
theorem zpG:(Tryz.prog.info? 133).map (λi=>(i.zero,i.size,i.bytes))=some (some (.agg #[.string ByteArray.empty,.string ByteArray.empty]),2,32):=by kernel_rfl
section
variable {ops:Array Oper} {rest:List Oper} {o:Oper} {a:Act} {Q:Exit->Act->World->Prop} {w:World}
theorem zi7(f:o.guard=none)(s x:Operand)(y:o.op=.call {callee:=.builtin .append,args:=#[s,x],argTypes:=#[25,25]})
 (base:Nat) (v:Value) (l:List zao) (B:a.eval s=v) (d:OwnV w base v l) (b:base<=w.heap.size)
 (n:List Value) (new:zao) (E:n=zaL new) (p:Nat) (m:w.heap.size=p) (c:Nat) (D:a.eval x=.slice (some ⟨p,0,none⟩) 1 c)
 (e:l.length<=4194304)
 (h:∀v' w',OwnV w' base v' (l++[new])->Below base w w'->(∀g,g<w.heap.size->v.ownBlock≠some g->w'.heap[g]? = w.heap[g]?)->w.heap.size<w'.heap.size->wpList Tryz.prog ops Q rest (a.put o.dst v') w'):
 wpList Tryz.prog ops Q (o::rest) a (w.alloc (.cells n.toArray 133)):=by
 subst E;subst m
 obtain⟨t,C,i,j,k⟩:=ZC zpG
 refine Xs f λ_ r=>za1 s x 25 y base 133 t _ 2 32 Tryz.underlying25 C i j k rfl (by decide) v l.length (l.flatMap zaL) B d b (zaL new) 1 c D rfl
  (λu z=>zjP [new] u (by simpa using z)) (by unfold maxLen;omega) (by omega) λv' w' h1 h2 A q=>r _ _ (h v' w' (by unfold OwnV;rw[Qa,Q4];simpa using h1) h2 A q)
end
def zpt:Value->Nat
 |.string r=>r.size
 |_=>0
theorem zjK{w w':World}{v v':Value}{b o n m size a:Nat}{e j:TypeId}{k d:List Value}(h:w.ownsRow b e size v n k)(s:w.ownsRow o j a v' m d)(f:j≠e)(q:∀g,g<w.heap.size->v'.ownBlock≠some g->w'.heap[g]? = w.heap[g]?):w'.ownsRow b e size v n k:=by
 refine⟨h.1,?_⟩
 rcases h.2 with p|⟨g,cap,i,h1,h2,l,r⟩
 ·exact .inl p
 ·have c:=(QK h g (by rw[h1];rfl)).2
  exact .inr ⟨g,cap,i,h1,h2,(q g c (zbA s l f)).trans l,r⟩
theorem zpH:(Tryz.prog.info? 142).map (·.size)=some 2:=by kernel_rfl
theorem zv9:liesAt Tryz.prog Tryz.prog.depth 142 (2 / Tryz.prog.cellsOf 142) 0 142 1=true:=by kernel_rfl
theorem zjF(b:Nat)(w:World)(c:w.cell? ⟨b,0,none⟩=some (.pointer (some ⟨b,0,none⟩))):
 Calls Tryz.prog 95 #[.pointer (some ⟨b,0,none⟩)] w λe w'=>e=.returned (.tuple #[])/\w'=w:=by
 obtain⟨j,a,_⟩:=XV.1 zpH
 go_in
 go_wp2_with fail;rw[Lib.run_neq_ptr_same w _ Tryz.underlying139 a];go_wp2_with fail
 go_end0
 exact⟨rfl,rfl⟩
theorem zi8(b:Nat)(w:World)(g:w.cell? ⟨b,0,none⟩=some (.pointer none))(a:w.shape? b=some (142,2))(f:w.frozen? ⟨b,0,none⟩=false):
 Calls Tryz.prog 95 #[.pointer (some ⟨b,0,none⟩)] w λe w'=>e=.returned (.tuple #[])/\w'=w.setCell ⟨b,0,none⟩ (.pointer (some ⟨b,0,none⟩)):=by
 obtain⟨j,d,c⟩:=XV.1 zpH
 go_in
 go_wp2_with fail;rw[Lib.run_to_unsafe w ⟨b,0,none⟩ Tryz.underlying139 Tryz.underlying218 d (by rw[c];decide) a (Nat.zero_lt_succ 1)];simp only[Result.andThen];rw[Oper.upon_value];go_wp2_with fail;rw[run_callFunc_extern Tryz.func130 (by kernel_rfl) (by kernel_rfl) (by kernel_rfl) (e:=Extern.AbiNoEscape.same) (by kernel_rfl)];rw[Lib.run_noEscape];simp only[Result.andThen];rw[Oper.upon_value];go_wp2_with fail;rw[Lib.run_from_unsafe w ⟨b,0,none⟩ Tryz.underlying218 Tryz.underlying139 d a zv9];simp only[Result.andThen];rw[Oper.upon_value];go_wp2_with fail
 go_end0
 exact⟨rfl,rfl⟩
theorem zlf(B b:Nat)(bs:List Value)(w:World)(h:Lib.IsBuilder 142 5 B b bs w):
 Calls Tryz.prog 95 #[.pointer (some ⟨b,0,none⟩)] w λe w'=>e=.returned (.tuple #[])/\Lib.BuilderAt 142 5 B b (.pointer (some ⟨b,0,none⟩)) bs w'/\Below B w w':=by
 rcases h with h|h
 ·refine(zi8 b w h.cell0 h.shape h.frozen0).mono ?_
  rintro e w' ⟨rfl,rfl⟩;exact⟨rfl,h.used _,(Qg B w).setCell (p:=⟨b,0,none⟩) h.1 _⟩
 ·refine(zjF b w h.cell0).mono ?_
  rintro e w' ⟨rfl,rfl⟩;exact⟨rfl,h,Qg B _⟩
theorem zed(B b:Nat)(bs:List Value)(s:ByteArray)(w:World)(h:Lib.IsBuilder 142 5 B b bs w)(z:bs.length+s.size<=140737488355328)(G:B<=w.heap.size):
 Calls Tryz.prog 62 #[.pointer (some ⟨b,0,none⟩),.string s] w λe w'=>e=.returned (.tuple #[.int .i64 s.size,.nilIface])/\Lib.BuilderAt 142 5 B b (.pointer (some ⟨b,0,none⟩)) (bs++Lib.strCells s) w'/\Below B w w':=by
 obtain⟨E,H,o,r,t⟩:=ZC zoD;have D:=hIx (zlf B b bs w h);clear h
 go_in
 go_wp2_with fail;refine D.out.mono ?_;rintro e l ⟨rfl,h1,j⟩;obtain⟨A,v,d,i,n⟩:=h1;have c0:l.cell? ⟨b,0,none⟩=some (.pointer (some ⟨b,0,none⟩)):=by rw[Lib.cell_of_heap d];rfl
 have c1:l.cell? ⟨b,1,none⟩=some v:=by rw[Lib.cell_of_heap d];rfl
 go_wp2_with (at_builtin;refine Lib.wpList_append_own_string _ rfl _ _ 140 9 rfl B 5 E Tryz.underlying140 Tryz.underlying9 H o r t _ _ _ rfl i s rfl ?c3 ?c4 ?c5 ?_)
 case c3=>unfold maxLen;omega
 case c4=>omega
 case c5=>have:=j.size;omega
 intro v' w2 a c _
 have m:b<l.heap.size:=by
  rcases ZN b l.heap.size with q|q
  ·exact q
  ·simp[Z1 q]at d
 have f:w2.heap[b]? = some (.cells #[.pointer (some ⟨b,0,none⟩),v] 142 (0,0)):=by
  rw[c.block b m (λe=>n e.symm)];exact d
 have K:w2.cell? ⟨b,0,none⟩=some (.pointer (some ⟨b,0,none⟩)):=by rw[Lib.cell_of_heap f];rfl
 have J:w2.cell? ⟨b,1,none⟩=some v:=by rw[Lib.cell_of_heap f];rfl
 have I:w2.frozen? ⟨b,1,none⟩=false:=Lib.frozen_of_heap f 1
 obtain⟨y,x,cap,rfl⟩:∃y x cap,v'=.slice y x cap:=by
  rcases a.2 with ⟨u,_⟩|⟨g,cap,F,u,_⟩
  ·exact⟨_,_,_,u⟩
  ·exact⟨_,_,_,u⟩
 go_wp2;exact Qj (v:=.tuple #[.int .i64 s.size,.nilIface]) (by simp[results,Tryz.results62,go_sem]) rfl ⟨rfl,Lib.BuilderAt.put (T:=142) (e:=5) A f (bs':=bs++Lib.strCells s) (by simpa[Lib.strCells_length]using a) (by decide),(j.grown c (by have:=j.size;omega) (λk C=>(i.lt k C).1)).setCell (p:=⟨b,1,none⟩) A _⟩
theorem zts(w:World):Calls Tryz.prog 20 #[] w λe w'=>e=.returned (.agg #[.string (.mk #[71,69,84]),.string (.mk #[47,97,63,98,61,99]),.slice none 0 0,.string (.mk #[])])/\Below w.heap.size w w':=by
 have hb:Below w.heap.size w (w.alloc (.cells #[.string (.mk #[71,69,84]),.string (.mk #[47,97,63,98,61,99]),.slice none 0 0,.string (.mk #[])] 29)):=WaL
 go_in
 go_wp2;exact Qj (v:=.agg #[.string (.mk #[71,69,84]),.string (.mk #[47,97,63,98,61,99]),.slice none 0 0,.string (.mk #[])]) (by simp[results,Tryz.results20,go_sem]) rfl ⟨rfl,hb⟩
theorem zj1{b:List (ByteArray × ByteArray)}{a:ByteArray}(h:∀f∈b,f.2.size<=maxLen):∀x∈getL b a,x.size<=maxLen:=λx d=>by
 obtain⟨f,c,rfl⟩:=QO.1 d;exact h f (ZB.1 c).1
def zjB(b:UInt8):List (List UInt8)->List (List UInt8)
 | []=>[[b]]
 |x::r=>(b::x)::r
def spl2:List UInt8->List (List UInt8)
 | []=>[[]]
 | [b]=>[[b]]
 |b::c::l=>if b=13/\c=10 then []::spl2 l else zjB b (spl2 (c::l))
theorem zwV(b:UInt8)(l:List (List UInt8)):zjB b l≠[]:=by cases l <;> simp[zjB]
theorem zhO(l:List UInt8):spl2 l≠[]:=by
 match l with
 | []=>simp[spl2]
 | [b]=>simp[spl2]
 |b::c::l=>
  rw[spl2]
  split
  ·simp
  ·exact zwV _ _
theorem zkQ(r:List UInt8):spl2 (13::10::r)=[]::spl2 r:=by rw[spl2,Qi ⟨rfl,rfl⟩]
theorem zl8(b:UInt8){x:List (List UInt8)}(a:x≠[])(y:List (List UInt8)):zjB b (x++y)=zjB b x++y:=by
 cases x with
 |nil=>exact absurd rfl a
 |cons z x=>rfl
theorem zbS:∀(a r:List UInt8),spl2 (a++13::10::r)=spl2 a++spl2 r
 | [],r=>zkQ r
 | [b],r=>by
  show spl2 (b::13::10::r)=_
  have e:spl2 (b::13::10::r)=zjB b (spl2 (13::10::r)):=by
   conv=>lhs;unfold spl2
   exact Qe (λh=>absurd h.2 (by decide))
  rw[e,zkQ]
  rfl
 |b::c::a,r=>by
  show spl2 (b::c::(a++13::10::r))=_
  rw[spl2,spl2]
  split
  ·rw[zbS a r];rfl
  ·have ih:=zbS (c::a) r
   rw[ZS]at ih;rw[ih,zl8 b (zhO _)]
theorem zf0:∀(l:List UInt8),(13:UInt8) ∉ l->spl2 l=[l]
 | [],_=>rfl
 | [b],_=>rfl
 |b::c::l,h=>by
  rw[spl2,Qe (λe=>h (by simp[e.1])),zf0 (c::l) (λe=>h (by simp only[QJ]at e ⊢;exact .inr e))]
  rfl
theorem zhq:∀(l:List UInt8),(spl2 l).length<=l.length+1
 | []=>by simp[spl2]
 | [b]=>by simp[spl2]
 |b::c::l=>by
  rw[spl2]
  split
  ·have:=zhq l
   simp only[Qo];omega
  ·have h:=zhq (c::l)
   cases a:spl2 (c::l)with
   |nil=>exact absurd a (zhO _)
   |cons x r=>rw[a]at h;simp only[zjB,Qo]at h ⊢;omega
theorem zgh:∀(l:List UInt8),∀x∈spl2 l,x.length<=l.length
 | [],x,h=>by simp[spl2]at h;subst h;simp
 | [b],x,h=>by simp[spl2]at h;subst h;simp
 |b::c::l,x,h=>by
  rw[spl2]at h
  split at h
  ·rcases QJ.1 h with e|e
   ·subst e;simp
   ·have:=zgh l x e;simp only[Qo];omega
  ·have ih:=zgh (c::l)
   cases a:spl2 (c::l)with
   |nil=>exact absurd a (zhO _)
   |cons y r=>
    rw[a]at h ih
    rcases QJ.1 h with e|e
    ·subst e;have:=ih y (by simp);simp only[Qo]at this ⊢;omega
    ·have:=ih x (by simp[e]);simp only[Qo]at this ⊢;omega
theorem ziT:∀(l:List UInt8),(∀j,j<=l.length->Lib.occAt l [13,10] j=false)->spl2 l=[l]
 | [],_=>rfl
 | [b],_=>rfl
 |b::c::l,h=>by
  have d:=h 0 (Qm _)
  rw[spl2,Qe,ziT (c::l) λj a=>by
   have:=h (j+1) (by simp only[Qo]at a ⊢;omega);exact this]
  ·rfl
  ·rintro⟨rfl,rfl⟩
   simp[Lib.occAt,List.isPrefixOf]at d
theorem zze:∀(a r:List UInt8),(∀j,j<a.length->Lib.occAt (a++13::10::r) [13,10] j=false)->spl2 (a++13::10::r)=a::spl2 r:=by
 intro a r h;rw[zbS,ziT a]
 ·rfl
 ·intro j d
  by_cases b:j<a.length
  ·have:=h j b
   unfold Lib.occAt at this ⊢;rw[ZL (by omega)]at this;cases c:a.drop j with
   |nil=>rfl
   |cons x q=>
    rw[c]at this;cases q with
    |nil=>simp[List.isPrefixOf]
    |cons y q=>simpa[List.isPrefixOf]using this
  ·unfold Lib.occAt
   rw[QP (by omega)]
   rfl
theorem zqD:∀(n:Nat) (l:List UInt8),l.length<=n->Lib.splitK [13,10] 0 (Lib.count l [13,10]) l=spl2 l:=by
 intro n
 induction n with
 |zero=>
  intro l h;have:l=[]:=QA (by omega);subst this;rw[Lib.count_miss (by simp[Lib.index])]
  rfl
 |succ n ih=>
  intro l h
  rcases Lib.index_spec l [13,10]with ⟨h1,h2⟩|⟨i,h1,h2,c,k⟩
  ·rw[Lib.count_miss h1,ziT l h2]
   rfl
  ·rw[Lib.count_hit (by simp) h1,Nat.add_comm,Lib.splitK,Qe (by rw[h1,Zk];omega),h1]
   unfold Lib.occAt at c;rw[Ze]at c;obtain⟨r,d⟩:=c;have o:((i:Int)).toNat=i:=by omega
   have e:l=l.take i++13::10::r:=by
    have m:(13:UInt8)::10::r=l.drop i:=d;rw[m,Zm]
   have g:(l.take i).length=i:=by rw[Qz];omega
   have f:l.drop (i+2)=r:=by
    rw[<-Zy,<-d];rfl
   have b:r.length<=n:=by
    have:=Zt List.length e;simp only[Qa,Qo]at this;omega
   rw[o,Xj,show ([13,10]:List UInt8).length=2 from rfl,f,ih r b];have a:∀j,j<(l.take i).length->Lib.occAt (l.take i++13::10::r) [13,10] j=false:=λj p=>by rw[<-e];exact k j (by omega)
   have:=zze (l.take i) r a;rw[<-e]at this;exact this.symm
theorem zrK(s:ByteArray):(Lib.splitB ⟨#[13,10]⟩ 0 (Lib.countB s ⟨#[13,10]⟩) s).map (·.data.toList)=spl2 s.data.toList:=by
 rw[Lib.splitB_data];exact zqD _ _ (Qd _)
def zfI(b:UInt8):Bool:=!(decide (b.toNat<33)||decide (126<b.toNat))
def zdm(l:List UInt8):Bool:=l.all zfI
def valB(b:UInt8):Bool:=!(decide (b.toNat<32)&&!(b.toNat==9)||b.toNat==127)
def zd2(l:List UInt8):Bool:=l.all valB&&(zaF l==l)
def zcd(f:zao):Int:=
 if (zdp f.1.data.toList&&zd2 f.2.data.toList)=false then 4 else if 1000<f.1.size+f.2.size then 5 else 0
def zbp:List zao->Int
 | []=>0
 |f::r=>if zcd f=0 then zbp r else zcd f
structure zbh where
 m:ByteArray
 t:ByteArray
 fs:List zao
def zfl(m t:List UInt8):Bool:=zdp m&&decide (m.length<=20)&&!t.isEmpty&&zdm t
def zak(h:zbh):Int:=
 if zfl h.m.data.toList h.t.data.toList=false then 4 else if 1000<h.t.size\/30<h.fs.length then 5 else zbp h.fs
def verL:List UInt8:=[72,84,84,80,47,49,46,49]
def zc4(f:zao):List UInt8:=f.1.data.toList++58::32::f.2.data.toList
def zcD(h:zbh):List UInt8:=h.m.data.toList++32::h.t.data.toList++32::verL
def zaT(h:zbh):List UInt8:=zcD h++[13,10]++h.fs.flatMap (λf=>zc4 f++[13,10])++[13,10]
def zb9(x:List UInt8):Bool:=!x.isEmpty&&(!x.contains 13&&!x.contains 10)
def endL:List UInt8:=[13,10,13,10]
def zdb(l:List UInt8):Option (List (List UInt8)):=
 if Lib.hasSuffix l endL=true then (if (spl2 (l.take (l.length-4))).all zb9=true then some (spl2 (l.take (l.length-4)))else none)else none
def cutF(x:List UInt8):zao:=(bs (Lib.cut x [58]).1,bs (zaF (Lib.cut x [58]).2.1))
def zjy(x:List UInt8):Bool:=(Lib.cut x [58]).2.2
def zdc(d:List (List UInt8)):Except Int zbh:=
 match splL 32 (d.headD [])with
 | [a,b,c]=>if c=verL then (if d.tail.all zjy=true then (if zak ⟨bs a,bs b,d.tail.map cutF⟩=0 then .ok ⟨bs a,bs b,d.tail.map cutF⟩else .error (zak ⟨bs a,bs b,d.tail.map cutF⟩))else .error 4)else .error 4
 |_=>.error 4
def zbu(l:List UInt8):Except Int zbh:=
 if 4096<l.length then .error 5 else match zdb l with
 |none=>.error 4
 |some a=>zdc a
theorem zmR(f:zao):zcd f=0\/zcd f=4\/zcd f=5:=by
 unfold zcd
 split
 ·exact .inr (.inl rfl)
 ·split
  ·exact .inr (.inr rfl)
  ·exact .inl rfl
theorem zfp:∀l:List zao,zbp l=0\/zbp l=4\/zbp l=5
 | []=>.inl rfl
 |f::r=>by
  unfold zbp
  split
  ·exact zfp r
  ·exact zmR f
theorem zmq(h:zbh):zak h=0\/zak h=4\/zak h=5:=by
 unfold zak
 split
 ·exact .inr (.inl rfl)
 ·split
  ·exact .inr (.inr rfl)
  ·exact zfp _
theorem zkH:∀{l:List zao},zbp l=0->∀f∈l,zcd f=0
 | [],_,f,h=>by cases h
 |x::r,h,f,a=>by
  unfold zbp at h
  split at h
  ·rename_i h1
   rcases QJ.1 a with e|e
   ·subst e;exact h1
   ·exact zkH h f e
  ·rename_i h1;exact absurd h h1
structure zih(h:zbh):Prop where
 tok:zdp h.m.data.toList=true
 short:h.m.size<=20
 some_:h.t.data.toList≠[]
 plain:zdm h.t.data.toList=true
 line:h.t.size<=1000
 few:h.fs.length<=30
 names:∀f∈h.fs,zdp f.1.data.toList=true
 vals:∀f∈h.fs,zd2 f.2.data.toList=true
 lens:∀f∈h.fs,f.1.size+f.2.size<=1000
theorem zhG{f:zao}(h:zcd f=0):zdp f.1.data.toList=true/\zd2 f.2.data.toList=true/\f.1.size+f.2.size<=1000:=by
 unfold zcd at h
 split at h
 ·cases h
 ·rename_i h1
  split at h
  ·cases h
  ·rename_i h2
   rw[Bool.not_eq_false,QW]at h1;exact⟨h1.1,h1.2,by omega⟩
theorem zek{h:zbh}(a:zak h=0):zih h:=by
 unfold zak at a
 split at a
 ·cases a
 ·rename_i h1
  split at a
  ·cases a
  ·rename_i h2
   unfold zfl at h1;rw[Bool.not_eq_false]at h1;simp only[QW,QY]at h1;obtain⟨⟨⟨e,i⟩,g⟩,d⟩:=h1;have hl:h.m.data.toList.length=h.m.size:=by simp
   have c:=zkH a;exact⟨e,by omega,by simpa using g,d,by omega,by omega,λf b=>(zhG (c f b)).1,λf b=>(zhG (c f b)).2.1,λf b=>(zhG (c f b)).2.2⟩
theorem zeF(b:UInt8)(h:tokB b=true):b≠32/\b≠13/\b≠10/\b≠58/\b≠9/\b≠34:=by
 have:=zcs (p:=λb=>!tokB b||decide (b≠32/\b≠13/\b≠10/\b≠58/\b≠9/\b≠34)) (by decide+kernel) b;rw[h]at this
 simpa using this
theorem zex(b:UInt8)(h:zfI b=true):b≠32/\b≠13/\b≠10:=by
 have:=zcs (p:=λb=>!zfI b||decide (b≠32/\b≠13/\b≠10)) (by decide+kernel) b;rw[h]at this
 simpa using this
theorem zj5(b:UInt8)(h:valB b=true):b≠13/\b≠10:=by
 have:=zcs (p:=λb=>!valB b||decide (b≠13/\b≠10)) (by decide+kernel) b;rw[h]at this
 simpa using this
theorem zfA{l:List UInt8}(h:zdp l=true):(32:UInt8) ∉ l/\(13:UInt8) ∉ l/\(10:UInt8) ∉ l/\(58:UInt8) ∉ l/\l≠[]:=by
 unfold zdp at h;simp only[QW,Zn]at h;refine⟨λe=>(zeF _ (h.2 _ e)).1 rfl,λe=>(zeF _ (h.2 _ e)).2.1 rfl,λe=>(zeF _ (h.2 _ e)).2.2.1 rfl,λe=>(zeF _ (h.2 _ e)).2.2.2.1 rfl,λe=>by rw[e]at h;simp at h⟩
theorem zkp{l:List UInt8}(h:zdm l=true):(32:UInt8) ∉ l/\(13:UInt8) ∉ l/\(10:UInt8) ∉ l:=by
 unfold zdm at h;rw[Zn]at h;exact⟨λe=>(zex _ (h _ e)).1 rfl,λe=>(zex _ (h _ e)).2.1 rfl,λe=>(zex _ (h _ e)).2.2 rfl⟩
theorem zf7{l:List UInt8}(h:zd2 l=true):(13:UInt8) ∉ l/\(10:UInt8) ∉ l/\zaF l=l:=by
 unfold zd2 at h;simp only[QW,Zn,Zk]at h;exact⟨λe=>(zj5 _ (h.1 _ e)).1 rfl,λe=>(zj5 _ (h.1 _ e)).2 rfl,h.2⟩
theorem zg9{l:List UInt8}{b:UInt8}(h:b ∉ l):l.contains b=false:=by
 cases e:l.contains b with
 |false=>rfl
 |true=>exact absurd (List.contains_iff_mem.1 e) h
theorem zsu{x:List UInt8}(a:x≠[])(h1:(13:UInt8) ∉ x)(h2:(10:UInt8) ∉ x):zb9 x=true:=by
 unfold zb9;rw[zg9 h1,zg9 h2];cases x with
 |nil=>exact absurd rfl a
 |cons _ _=>rfl
theorem zmQ{x:List UInt8}(h:zb9 x=true):x≠[]/\(13:UInt8) ∉ x/\(10:UInt8) ∉ x:=by
 unfold zb9 at h;simp only[QW,Bool.not_eq_true']at h;refine⟨λe=>by rw[e]at h;simp at h,λe=>?_,λe=>?_⟩
 ·have:=List.contains_iff_mem.2 e;rw[h.2.1]at this;cases this
 ·have:=List.contains_iff_mem.2 e;rw[h.2.2]at this;cases this
theorem zkI:∀(x:List UInt8) (a:List (List UInt8)),(∀y∈x::a,(13:UInt8) ∉ y)->spl2 (x++a.flatMap λy=>[13,10]++y)=x::a
 |x,[],h=>by rw[XE,QI];exact zf0 x (h x (by simp))
 |x,y::a,h=>by
  have ih:=zkI y a (λz b=>h z (by simp only[QJ]at b ⊢;exact .inr b));have e:x++(y::a).flatMap (λy=>[13,10]++y)=x++13::10::(y++a.flatMap λy=>[13,10]++y):=by simp
  rw[e,zbS,ih,zf0 x (h x (by simp))]
  rfl
theorem zjO:∀(x:List UInt8) (a:List (List UInt8)),x++[13,10]++a.flatMap (λy=>y++[13,10])=(x++a.flatMap λy=>[13,10]++y)++[13,10]
 |x,[]=>by simp
 |x,y::a=>by
  have ih:=zjO y a;rw[QM,QM];have b:x++[13,10]++(y++[13,10]++a.flatMap λy=>y++[13,10])=x++[13,10]++(y++[13,10]++a.flatMap (λy=>y++[13,10])):=rfl;rw[b,ih];simp
theorem zog(h:zbh):zaT h=(zcD h++(h.fs.map zc4).flatMap λy=>[13,10]++y)++endL:=by
 unfold zaT;have e:h.fs.flatMap (λf=>zc4 f++[13,10])=(h.fs.map zc4).flatMap λy=>y++[13,10]:=by rw[List.flatMap_map]
 rw[e,zjO,QH]
 rfl
theorem zrw(a:List UInt8):Lib.hasSuffix (a++endL) endL=true:=by
 unfold Lib.hasSuffix;rw[XI];exact⟨a,rfl⟩
theorem zo2(a:List UInt8):(a++endL).take ((a++endL).length-4)=a:=by
 rw[Qa,show endL.length=4 from rfl,Nat.add_sub_cancel,XJ]
theorem zs7(a b c:List UInt8)(h1:(32:UInt8) ∉ a)(h2:(32:UInt8) ∉ b)(f:(32:UInt8) ∉ c):splL 32 (a++32::b++32::c)=[a,b,c]:=by
 have d:∀w:List UInt8,(32:UInt8) ∉ w->splL 32 w=[w]:=λw=>by
  induction w with
  |nil=>intro _;rfl
  |cons b w ih=>intro h;rw[splL,Qe (λe=>h (by simp[e])),ih (λe=>h (by simp[e]))]
 rw[QH,ZS,zig,zig,d a h1,d b h2,d c f]
 rfl
theorem zwH(c:UInt8):∀(a b:List UInt8),c ∉ a->Lib.cut (a++c::b) [c]=(a,b,true):=by
 intro a b h
 have d:∀a:List UInt8,c ∉ a->Lib.index (a++c::b) [c]=(a.length:Int):=by
  intro a
  induction a with
  |nil=>intro _;rw[Xa,Lib.index];simp[List.isPrefixOf]
  |cons x a ih=>
   intro h;have h1:=ih (λe=>h (by simp[e]));rw[ZS,zfW x c _ (λe=>h (by simp[e])),h1,Qe (by rw[Zk];omega)];simp
 have h1:=d a h;unfold Lib.cut;rw[Qi (by omega),h1];simp
theorem zfE(l:List UInt8):(zaF l).length<=l.length:=by
 unfold zaF zc7;rw[List.length_reverse];refine Qn (XW _).length_le ?_;rw[List.length_reverse];exact(XW _).length_le
theorem zrg(l:List UInt8):zaF (32::l)=zaF l:=rfl
theorem znC{f:zao}(h1:(58:UInt8) ∉ f.1.data.toList)(h2:zaF f.2.data.toList=f.2.data.toList):zjy (zc4 f)=true/\cutF (zc4 f)=f:=by
 unfold zjy cutF zc4;rw[zwH 58 _ _ h1];refine⟨rfl,?_⟩;dsimp only;rw[zrg,h2,zdZ,zdZ]
theorem ziA{h:zbh}(r:zak h=0):zdb (zaT h)=some (zcD h::h.fs.map zc4):=by
 have d:=zek r;obtain⟨_,n,o,_,_⟩:=zfA d.tok;obtain⟨_,l,m⟩:=zkp d.plain;have i:(13:UInt8) ∉ verL:=by decide
 have j:(10:UInt8) ∉ verL:=by decide
 have k:(13:UInt8) ∉ zcD h:=by
  unfold zcD;simp only[QN,QJ];rintro((h|h|h)|h|h)
  ·exact n h
  ·exact absurd h (by decide)
  ·exact l h
  ·exact absurd h (by decide)
  ·exact i h
 have g:(10:UInt8) ∉ zcD h:=by
  unfold zcD;simp only[QN,QJ];rintro((h|h|h)|h|h)
  ·exact o h
  ·exact absurd h (by decide)
  ·exact m h
  ·exact absurd h (by decide)
  ·exact j h
 have hl:∀f∈h.fs,(13:UInt8) ∉ zc4 f/\(10:UInt8) ∉ zc4 f/\zc4 f≠[]:=λf c=>by
  obtain⟨v,n2,n3,u,s⟩:=zfA (d.names f c);obtain⟨p,q,t⟩:=zf7 (d.vals f c);unfold zc4;refine⟨?_,?_,by simp⟩
  ·simp only[QN,QJ]
   rintro(h|h|h|h)
   ·exact n2 h
   ·exact absurd h (by decide)
   ·exact absurd h (by decide)
   ·exact p h
  ·simp only[QN,QJ]
   rintro(h|h|h|h)
   ·exact n3 h
   ·exact absurd h (by decide)
   ·exact absurd h (by decide)
   ·exact q h
 have a:∀y∈zcD h::h.fs.map zc4,(13:UInt8) ∉ y/\(10:UInt8) ∉ y/\y≠[]:=λy b=>by
  rcases QJ.1 b with e|e
  ·subst e;exact⟨k,g,by unfold zcD;simp⟩
  ·obtain⟨f,c,rfl⟩:=QO.1 e
   exact hl f c
 rw[zog];unfold zdb;rw[Qi (zrw _),zo2,zkI _ _ (λy b=>(a y b).1),Qi];rw[Zn];exact λy b=>zsu (a y b).2.2 (a y b).1 (a y b).2.1
theorem zjm{h:zbh}(d:zak h=0)(e:(zaT h).length<=4096):zbu (zaT h)=.ok h:=by
 have b:=zek d;obtain⟨n,_⟩:=zfA b.tok;obtain⟨j,_⟩:=zkp b.plain;have c:(32:UInt8) ∉ verL:=by decide
 unfold zbu;rw[Qe (by omega),ziA d];dsimp only;unfold zdc;rw[List.headD_cons,show zcD h=h.m.data.toList++32::h.t.data.toList++32::verL from rfl,zs7 _ _ _ n j c];dsimp only;rw[Qi rfl,List.tail_cons,Qi]
 ·have i:(h.fs.map zc4).map cutF=h.fs:=by
   rw[Xu]
   have:∀l:List zao,(∀f∈l,cutF (zc4 f)=f)->l.map (cutF ∘ zc4)=l:=λl=>by
    induction l with
    |nil=>intro _;rfl
    |cons x l ih=>intro g;rw[QX,ih (λf a=>g f (by simp[a]))];show cutF (zc4 x)::l=_;rw[g x (by simp)]
   exact this _ λf a=>(znC (zfA (b.names f a)).2.2.2.1 (zf7 (b.vals f a)).2.2).2
  rw[i,zdZ,zdZ,Qi d]
 ·rw[Zn]
  intro y k;obtain⟨f,a,rfl⟩:=QO.1 k;exact(znC (zfA (b.names f a)).2.2.2.1 (zf7 (b.vals f a)).2.2).1
theorem zsX{l:List UInt8}(h:4096<l.length):zbu l=.error 5:=by unfold zbu;rw[Qi h]
theorem zp8{l:List UInt8}{h:zbh}(a:zbu l=.ok h):l.length<=4096/\zak h=0/\∃b,zdb l=some b/\zdc b=.ok h:=by
 unfold zbu at a
 split at a
 ·cases a
 ·rename_i h1
  split at a
  ·cases a
  ·rename_i b c
   refine⟨by omega,?_,b,c,a⟩;unfold zdc at a
   split at a
   ·split at a
    ·split at a
     ·split at a
      ·rename_i d
       cases a;exact d
      ·cases a
     ·cases a
    ·cases a
   ·cases a
theorem zmc{l:List UInt8}{e:Int}(a:zbu l=.error e):e=4\/e=5:=by
 unfold zbu at a
 split at a
 ·cases a;exact .inr rfl
 ·split at a
  ·cases a;exact .inl rfl
  ·unfold zdc at a
   split at a
   ·split at a
    ·split at a
     ·split at a
      ·cases a
      ·rename_i b
       cases a;exact(zmq _).resolve_left b
     ·cases a;exact .inl rfl
    ·cases a;exact .inl rfl
   ·cases a;exact .inl rfl
theorem zkc{l:List UInt8}{b:List (List UInt8)}(h:zdb l=some b):∃a,l=a++endL/\spl2 a=b/\b.all zb9=true:=by
 unfold zdb at h
 split at h
 ·rename_i h1
  split at h
  ·rename_i h2
   cases h;obtain⟨a,c⟩:=(by unfold Lib.hasSuffix at h1;rw[XI]at h1;exact h1:endL <:+l)
   refine⟨a,c.symm,?_,h2⟩;rw[<-c,zo2]
  ·cases h
 ·cases h
theorem zlo{a x:List UInt8}(s:x≠[])(b:List UInt8)(hb:a++endL++x=b++endL):(spl2 b).all zb9=false:=by
 have j:=Zt List.length hb;simp only[Qa,show endL.length=4 from rfl]at j
 have g:b=(a++endL++x).take (a.length+x.length):=by
  rw[hb,List.take_left' (by omega)]
 have p:0<x.length:=XO.2 s
 have f:∀y∈spl2 b,zb9 y=false->(spl2 b).all zb9=false:=λy i h=>by
  rw[List.all_eq_false];exact⟨y,i,by rw[h];decide⟩
 rcases(show x.length=1\/x.length=2\/x.length=3\/4<=x.length by omega)with h1|h1|h1|h1
 ·have e:b=a++[13]:=by
   rw[g,h1,QH,Z2,QC (by omega),show a.length+1-a.length=1 by omega];rfl
  have l:∃y∈spl2 (a++[13]),(13:UInt8)∈y:=by
   clear g hb e f j
   have o:∀(n:Nat) (a:List UInt8),a.length<=n->∃y∈spl2 (a++[13]),(13:UInt8)∈y:=by
    intro n
    induction n with
    |zero=>intro a h;have:a=[]:=QA (by omega);subst this;exact⟨[13],by simp[spl2],by simp⟩
    |succ n ih=>
     intro a h
     match a with
     | []=>exact⟨[13],by simp[spl2],by simp⟩
     | [c]=>
      show ∃y∈spl2 (c::13::[]),_
      rw[spl2,Qe (λh=>absurd h.2 (by decide))];exact⟨[c,13],by simp[spl2,zjB],by simp⟩
     |c::d::r=>
      simp only[Qo]at h;show ∃y∈spl2 (c::d::(r++[13])),_
      rw[spl2]
      split
      ·obtain⟨y,i,k⟩:=ih r (by omega)
       exact⟨y,by simp[i],k⟩
      ·obtain⟨y,i,k⟩:=ih (d::r) (by simp only[Qo];omega)
       rw[ZS]at i;cases m:spl2 (d::(r++[13]))with
       |nil=>exact absurd m (zhO _)
       |cons z q=>
        rw[m]at i
        rcases QJ.1 i with e|e
        ·subst e;exact⟨c::y,by simp[zjB],by simp[k]⟩
        ·exact⟨y,by simp[zjB,e],k⟩
   exact o a.length a (Qd _)
  obtain⟨y,i,k⟩:=l;rw[<-e]at i;refine f y i ?_;cases m:zb9 y with
  |false=>rfl
  |true=>exact absurd k (zmQ m).2.1
 ·have e:b=a++13::10::[]:=by
   rw[g,h1,QH,Z2,QC (by omega),show a.length+2-a.length=2 by omega];rfl
  refine f [] ?_ rfl;rw[e,zbS];simp[spl2]
 ·have e:b=a++13::10::[13]:=by
   rw[g,h1,QH,Z2,QC (by omega),show a.length+3-a.length=3 by omega];rfl
  refine f [13] ?_ (by decide);rw[e,zbS];simp[spl2]
 ·have e:b=a++13::10::(13::10::x.take (x.length-4)):=by
   rw[g,QH,Z2,QC (by omega),show a.length+x.length-a.length=x.length by omega,Z2,QC (by show 4<=x.length;exact h1)]
   rfl
  refine f [] ?_ rfl;rw[e,zbS,zkQ];simp
