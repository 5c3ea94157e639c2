/- Lemmas for the last texts. -/
import Derived.Test.YtnnokglddolglaaGreatDoorM30
import Derived.Laws.RangeString
import Derived.Deep.LoopGhost
set_option maxHeartbeats 6400000
set_option maxRecDepth 100000
namespace Go.Proofs.YtnnokglddolglaaGreatDoor
open Go.RowKit Go.Proofs.Tryz
theorem zwT(s:ByteArray)(i:Nat)(h:i<s.size):s.get! i=s[i]:=by
 simp[ByteArray.get!, getElem!_pos,h]
 rfl
theorem zzd(s:ByteArray)(i:Nat)(h:i<s.size)(hb:128<=(s[i]'h).toNat):∃c n,Utf8.decode s i=(c,n)/\128<=c/\c<=1114111/\Utf8.valid c=true/\1<=n/\i+n<=s.size/\∀k,k<n->∀d:i+k<s.size,128<=(s[i+k]'d).toNat:=by
 have p:s.get! (i+0)=s[i]:=zwT s i h
 have e:∀k,k<1->∀d:i+k<s.size,128<=(s[i+k]'d).toNat:=λk d b=>by
  obtain rfl:k=0:=by omega
  exact hb
 have a:∀k,((decide (i+k<s.size))&&((s.get! (i+k)).toNat / 64==2))=true->i+k<s.size/\(s.get! (i+k)).toNat / 64=2/\∀d:i+k<s.size,128<=(s[i+k]'d).toNat:=λk d=>by
  simp only[QU,QY,Zo]at d;refine⟨d.1,d.2,λb=>?_⟩;have:=d.2;rw[zwT s (i+k) b]at this;omega
 unfold Utf8.decode;simp only[p];rw[Qe (by omega)]
 split
 ·rename_i h1
  rw[QU]at h1;obtain⟨o,m,g⟩:=a 1 h1.2;have q:=(s.get! (i+1)).toNat_lt
  split
  ·rename_i f
   refine⟨_,_,rfl,f,by omega,?_,by omega,by omega,λk d b=>?_⟩
   ·unfold Utf8.valid
    simp only[Xo,QU,QY]
    left
    have:(s[i]).toNat<256:=(s[i]).toNat_lt;omega
   ·rcases(by omega:k=0\/k=1)with rfl|rfl
    ·exact hb
    ·exact g b
  ·exact⟨_,_,rfl,by decide,by decide,by decide,by omega,by omega,e⟩
 ·split
  ·rename_i h1
   rw[QU,QU]at h1;obtain⟨o,m,g⟩:=a 1 h1.1.2;obtain⟨t,u,j⟩:=a 2 h1.2
   split
   ·rename_i f
    rw[QU]at f;have l:2048<=_:=Zr f.1;refine⟨_,_,rfl,by omega,?_,f.2,by omega,by omega,λk d b=>?_⟩
    ·have:=f.2
     unfold Utf8.valid at this;simp only[Xo,QU,QY]at this;omega
    ·rcases(by omega:k=0\/k=1\/k=2)with rfl|rfl|rfl
     ·exact hb
     ·exact g b
     ·exact j b
   ·exact⟨_,_,rfl,by decide,by decide,by decide,by omega,by omega,e⟩
  ·split
   ·rename_i h1
    rw[QU,QU,QU]at h1;obtain⟨o,m,g⟩:=a 1 h1.1.1.2;obtain⟨t,u,j⟩:=a 2 h1.1.2;obtain⟨w,v,r⟩:=a 3 h1.2
    split
    ·rename_i f
     rw[QU]at f;have l:65536<=_:=Zr f.1;refine⟨_,_,rfl,by omega,?_,f.2,by omega,by omega,λk d b=>?_⟩
     ·have:=f.2
      unfold Utf8.valid at this;simp only[Xo,QU,QY]at this;omega
     ·rcases(by omega:k=0\/k=1\/k=2\/k=3)with rfl|rfl|rfl|rfl
      ·exact hb
      ·exact g b
      ·exact j b
      ·exact r b
    ·exact⟨_,_,rfl,by decide,by decide,by decide,by omega,by omega,e⟩
   ·exact⟨_,_,rfl,by decide,by decide,by decide,by omega,by omega,e⟩
theorem zyG(r:Int)(h:128<=r):(∃a b:UInt8,Utf8.encode r=ByteArray.mk #[a,b]/\128<=b.toNat)\/(∃a b c:UInt8,Utf8.encode r=ByteArray.mk #[a,b,c]/\128<=c.toNat)\/(∃a b c d:UInt8,Utf8.encode r=ByteArray.mk #[a,b,c,d]/\128<=d.toNat):=by
 have hb:∀n:Nat,128<=(UInt8.ofNat (0x80+n % 64)).toNat:=λn=>by simp;omega
 unfold Utf8.encode;generalize f:(if Utf8.valid r then r.toNat else Utf8.runeError)=c
 have e:128<=c:=by
  rw[<-f]
  split
  ·omega
  ·decide
 dsimp only;rw[Qe (by omega)]
 split
 ·exact .inl ⟨_,_,rfl,hb _⟩
 ·split
  ·exact .inr (.inl ⟨_,_,_,rfl,hb _⟩)
  ·exact .inr (.inr ⟨_,_,_,_,rfl,hb _⟩)
section
variable {P:Program}
def zdA(W:World)(g:Nat)(s:ByteArray)(p:Nat):World:={W with heap:=W.heap.setIfInBounds g (.stringIter s p)}
theorem zir(W:World)(g:Nat)(s:ByteArray)(pos:Nat)(b:TypeId)(d:W.heap[g]? = some (.stringIter s pos))(h:pos<s.size)(c n:Nat)(a:Utf8.decode s pos=(c,n)):
 (Instr.next (.pointer g) true b).run P W=.ok (.tuple #[.bool true,jA pos,.int .i32 c]) (zdA W g s (pos+n)):=by
 simp only[Instr.next,getObj,setObj,Xf,Sem.run,d,Result.andThen,h,if_true,a];simp[goInt,zdA]
theorem zlm(W:World)(g:Nat)(s:ByteArray)(pos:Nat)(a:TypeId)(b:W.heap[g]? = some (.stringIter s pos))(h:¬pos<s.size):
 (Instr.next (.pointer g) true a).run P W=.ok (.tuple #[.bool false]) W:=by
 simp[Instr.next,getObj,Sem.run,b,h]
theorem zkb{W:World}{g:Nat}{s:ByteArray}{p:Nat}{o:Obj}(b:W.heap[g]? = some o):(zdA W g s p).heap[g]? = some (.stringIter s p):=by
 have a:g<W.heap.size:=by rw[QV]at b;exact b.1
 simp[zdA,a]
theorem zfD{B:Nat}{w W:World}{g:Nat}{s:ByteArray}{p:Nat}(h:Below B w W)(b:B<=g):Below B w (zdA W g s p):=
 ⟨h.os,h.tape,h.output,by simpa[zdA]using h.size,λi a=>by
  rw[<-h.block i a];simp only[zdA];rw[Xp (by omega)]⟩
theorem zgZ(w:World)(src dst:TypeId)(r:Int)(b:P.underlying src=some (.int .i32))(a:P.underlying dst=some .string):
 (convert src dst (.int .i32 r)).run P w=.ok (.string (Utf8.encode r)) w:=by
 simp[convert,ZV b,ZV a,Conv.intToString]
end
theorem ztJ(x:UInt8)(h:128<=x.toNat)(l:jE)(hl:∀y∈l,y.toNat<128):Lib.indexByte l x=-1:=by
 have:∀l:jE,(∀y∈l,y.toNat<128)->Lib.indexByte l x=-1:=by
  intro l
  induction l with
  |nil=>intro _;rfl
  |cons y l ih=>
   intro hl;unfold Lib.indexByte;have h1:=hl y (by simp);rw[Qe (by intro e;have:=Zo.1 e;subst this;omega),ih (λz a=>hl z (by simp[a]))]
   rfl
 exact this l hl
theorem zk7(w:World):Calls prog 233 #[.string (.mk #[34,13,10]),.int .i32 65533] w λe w'=>e=jC (jA (-1))/\w w':=by
 have c:Hid (∀i,w (w.iter (ByteArray.mk #[34,13,10]) i)):=λi=>WaL
 go_in
 go_wp2_with fail
 go_loopg [5,6] 3 (λg _ _ d=>∃i:Nat,i+g=3/\d=w.iter (ByteArray.mk #[34,13,10]) i)
 case atStart=>exact⟨0,rfl,rfl⟩
 case round=>
  obtain⟨i,f,rfl⟩:=hrel;cases gk with
  |zero=>
   obtain rfl:i=3:=by omega
   have a:=run_next_end (P:=prog) w (ByteArray.mk #[34,13,10]) 3 (h:=by decide);go_wp2;go_ret;exact⟨rfl,c.out _⟩
  |succ g=>
   rcases(by omega:i=0\/i=1\/i=2)with rfl|rfl|rfl
   ·have a:=λb=>run_next_ascii (P:=prog) w (ByteArray.mk #[34,13,10]) 0 b (by decide) (by decide)
    go_wp2_with fail
    go_roundg g
    case measure=>omega
    case rel=>exact⟨1,by omega,rfl⟩
   ·have a:=λb=>run_next_ascii (P:=prog) w (ByteArray.mk #[34,13,10]) 1 b (by decide) (by decide)
    go_wp2_with fail
    go_roundg g
    case measure=>omega
    case rel=>exact⟨2,by omega,rfl⟩
   ·have a:=λb=>run_next_ascii (P:=prog) w (ByteArray.mk #[34,13,10]) 2 b (by decide) (by decide)
    go_wp2_with fail
    go_roundg g
    case measure=>omega
    case rel=>exact⟨3,by omega,rfl⟩
theorem zrh(r:Int)(h:Utf8.valid r=true):Lib.validRune r=true:=by
 unfold Utf8.valid at h;unfold Lib.validRune;simp only[Xo,QU,QY]at h ⊢;omega
theorem zmA(r:Int)(w:World)(h:128<=r)(h2:r<=1114111)(q:Utf8.valid r=true):Calls prog 233 #[.string (.mk #[34,13,10]),.int .i32 r] w λe w'=>e=jC (jA (-1))/\w w':=by
 by_cases p:r=65533
 ·subst p;exact zk7 w
 ·have z:(r==65533)=false:=Qb.2 p
  have B:decide (r<128)=false:=Qq (by omega);have A:decide ((0:Int)<=r)=true:=Qu (by omega)
  have k:Hid (∀W,Calls prog 274 #[.int .i32 r] W λe w'=>e=jC (.bool true)/\w'=W):=λW=>by
   have:=utf8_ValidRune r W;rw[zrh r q]at this;exact this
  have t:Hid (∀(W:World) n,W (W.drewN n)):=λW n=>below_drewN (Qj _ _) n
  have l:=λW=>zgZ (P:=prog) W 21 9 r underlying21 underlying9
  rcases zyG r h with ⟨a,b,j,hb⟩|⟨a,b,c,j,hb⟩|⟨a,b,c,d,j,hb⟩
  ·rw[j]at l
   have w2:IntKind.i64.wrap 2=2:=by decide
   have w3:IntKind.i64.wrap 3=3:=by decide
   have x:((13:Int) != (b.toNat:Int))=true:=Q7.2 (by omega);have f:Lib.indexByte [10] b=-1:=ztJ b hb _ (by decide);have u:(ByteArray.mk #[34,13,10]).extract 2 3=ByteArray.mk #[10]:=by rfl
   have y:(ByteArray.mk #[a,b])[1]'(by show 1<2;decide)=b:=by rfl
   have v:(ByteArray.mk #[34,13,10])[1]'(by decide)=13:=by rfl
   have s:Hid (∀W,Calls prog 122 #[.string (.mk #[10]),.int .u8 b.toNat] W λe w'=>e=jC (jA (-1))/\w'=W):=λW=>by
    have:=zaT (ByteArray.mk #[10]) b W;rw[show Lib.indexByte (ByteArray.mk #[10]).data.toList b=-1 from f]at this;exact this
   clear h h2 q j f hb p
   go_in
   go_wp2_with (go_at_call 274;refine(k.out _).mono ?_;rintro e w' ⟨rfl,rfl⟩)
   go_step3
   go_wp2
   go_loopw [9] (λm wr=>m=jA 1/\wr=w') (λ_ _=>0)
   case atStart=>exact⟨rfl,rfl⟩
   case round=>
    obtain⟨rfl,rfl⟩:=hrel;go_wp2_with fail
    try go_step3
    go_wp2_with fail
    go_quiet (fail)
    have i:=hIx (t.out wr nq);obtain⟨o,g⟩:∃o,wr.drewN nq=o:=⟨_,rfl⟩
    rw[g]at i ⊢;clear g;go_wp2_with fail
    go_quiet ((go_at_call 122;exact Q9 (s.out _)))
    go_wp2_with fail;simp (config:={zetaDelta:=true}) only[Exit.noGoto_ret,Exit.inBlock,Exit.then];go_ret;exact⟨rfl,below_drewN i.out nq⟩
  ·rw[j]at l
   have w2:IntKind.i64.wrap 2=2:=by decide
   have w3:IntKind.i64.wrap 3=3:=by decide
   have x:((10:Int) != (c.toNat:Int))=true:=Q7.2 (by omega);have f:Lib.indexByte [] c=-1:=ztJ c hb _ (by decide);have u:(ByteArray.mk #[34,13,10]).extract 3 3=ByteArray.mk #[]:=by rfl
   have y:(ByteArray.mk #[a,b,c])[2]'(by show 2<3;decide)=c:=by rfl
   have v:(ByteArray.mk #[34,13,10])[2]'(by decide)=10:=by rfl
   have s:Hid (∀W,Calls prog 122 #[.string (.mk #[]),.int .u8 c.toNat] W λe w'=>e=jC (jA (-1))/\w'=W):=λW=>by
    have:=zaT (ByteArray.mk #[]) c W;rw[show Lib.indexByte (ByteArray.mk #[]).data.toList c=-1 from f]at this;exact this
   clear h h2 q j f hb p
   go_in
   go_wp2_with (go_at_call 274;refine(k.out _).mono ?_;rintro e w' ⟨rfl,rfl⟩)
   go_step3
   go_wp2
   go_loopw [9] (λm wr=>m=jA 2/\wr=w') (λ_ _=>0)
   case atStart=>exact⟨rfl,rfl⟩
   case round=>
    obtain⟨rfl,rfl⟩:=hrel;go_wp2_with fail
    try go_step3
    go_wp2_with fail
    go_quiet (fail)
    have i:=hIx (t.out wr nq);obtain⟨o,g⟩:∃o,wr.drewN nq=o:=⟨_,rfl⟩
    rw[g]at i ⊢;clear g;go_wp2_with fail
    go_quiet ((go_at_call 122;exact Q9 (s.out _)))
    go_wp2_with fail;simp (config:={zetaDelta:=true}) only[Exit.noGoto_ret,Exit.inBlock,Exit.then];go_ret;exact⟨rfl,below_drewN i.out nq⟩
  ·rw[j]at l
   clear h h2 q j hb p
   go_in
   go_wp2_with (go_at_call 274;refine(k.out _).mono ?_;rintro e w' ⟨rfl,rfl⟩)
   go_step3
   go_wp2
   go_loopw [9] (λm wr=>m=jA 3/\wr=w') (λ_ _=>0)
   case atStart=>exact⟨rfl,rfl⟩
   case round=>
    obtain⟨rfl,rfl⟩:=hrel;go_wp2_with fail;simp (config:={zetaDelta:=true}) only[Exit.noGoto_ret,Exit.inBlock];go_ret;exact⟨rfl,t.out _ 0⟩
theorem zqD(x:UInt8):(Lib.indexByte [34,13,10] ((x.toNat:Int)).toNat.toUInt8>=0)=(zd9.contains x=true):=by
 have e:((x.toNat:Int)).toNat.toUInt8=x:=by simp
 rw[e,propext_iff];have:=Lib.contains_iff_indexByte zd9 x;unfold zd9 at this ⊢;rw[this,decide_eq_true_iff]
theorem zqn{s a:jE}{i n:Nat}(h:Lib.NoAny s a i)(c:∀k,k<n->∀b,s[i+k]? = some b->a.contains b=false):Lib.NoAny s a (i+n):=λj b d hb=>by
 rcases ZI j i with h1|h1
 ·exact h j b h1 hb
 ·exact c (j-i) (by omega) b (by rw[show i+(j-i)=j by omega];exact hb)
theorem zyD(x:UInt8)(h:128<=x.toNat):zd9.contains x=false:=by
 have:=zcq (p:=λx=>decide (x.toNat<128)||!zd9.contains x) (by decide+kernel) x;simp only[Xo,QY,Bool.not_eq_true']at this
 rcases this with h1|h1
 ·omega
 ·exact h1
theorem zh4(s:ByteArray)(w:World)(h8:s.size<=8):
 Calls prog 190 #[.string s,.string (.mk #[34,13,10])] w λe w'=>e=jC (jA (Lib.indexAny s.data.toList zd9))/\w w':=by
 have d8:decide ((8:Int)<(s.size:Int))=false:=Qq (by omega)
 have HU:Hid (∀W,Calls prog 234 #[jA (s.size:Int)] W λe w'=>e=jC (.bool false)/\w'=W):=λW=>by
  have:=strings_shouldUseASCIISet (s.size:Int) W;rw[d8]at this;exact this
 have q:=World.iter_heap w s 0;have G:w (w.iter s 0):=WaL;have U:=hIx q;have O:=hIx G;clear q G
 go_in
 go_wp2_with (go_at_call 234;refine(HU.out _).mono ?_;rintro e w' ⟨rfl,F⟩;rw[F])
 go_loopg [9,10] s.size (λg _ _ Y=>∃i:Nat,i<=s.size/\s.size-i<=g/\Y.heap[w.heap.size]? = some (.stringIter s i)/\w Y/\Lib.NoAny s.data.toList zd9 i)
 case atStart=>exact⟨0,Qm _,Qc _,U.out,O.out,Lib.NoAny.zero _ _⟩
 case round=>
  obtain⟨i,hi,h3,hit,hb,A⟩:=hrel;have N:=hIx A;clear A
  by_cases d:i<s.size
  ·obtain⟨g,rfl⟩:∃g,gk=g+1:=⟨gk-1,by omega⟩
   obtain⟨x,y⟩:∃x:UInt8,s[i]'d=x:=⟨_,rfl⟩
   have t:s.data.toList[i]? = some x:=by rw[<-y];exact Xt s i d
   by_cases E:x.toNat<128
   ·have v:=decode_ascii s i d (by rw[y];exact E)
    rw[y]at v;have H:=λK=>zir (P:=prog) wr w.heap.size s i K hit d _ _ v
    have a:=zkb (s:=s) (p:=i+1) hit;have j:=zfD (s:=s) (p:=i+1) hb (Qc _);have HX:=hIx t;have u:=hIx a;have f:=hIx j;have T:=λW=>strings_IndexRune_ascii (ByteArray.mk #[34,13,10]) (x.toNat:Int) W (by omega) (by omega)
    have B:=zqD x;have Z:(ByteArray.mk #[34,13,10]).data.toList=[34,13,10]:=rfl;rw[Z]at T;generalize Lib.indexByte [34,13,10] ((x.toNat:Int)).toNat.toUInt8=J at *;have m:=hIx T;clear v hit hb a j t y T Z
    by_cases z:zd9.contains x=true
    ·have hJ:(0:Int)<=J:=by rw[z]at B;simpa using B
     have Q:=hIx z;clear B z;go_wp2_with (go_at_call 233;refine(m.out _).mono ?_;rintro e w9 ⟨rfl,F⟩;rw[F]);go_ret;exact⟨by rw[Lib.indexAny_hit N.out HX.out Q.out];rfl,f.out⟩
    ·have l:zd9.contains x=false:=by simpa using z
     have hJ:J<0:=by
      rcases Int.lt_or_le J 0 with h|h
      ·exact h
      ·exfalso;apply z;rw[<-B];exact h
     have Q:=hIx l;clear B z l;go_wp2_with (go_at_call 233;refine(m.out _).mono ?_;rintro e w9 ⟨rfl,F⟩;rw[F])
     go_roundg g
     case measure=>omega
     case rel=>exact⟨i+1,by omega,by omega,u.out,f.out,N.out.succ HX.out Q.out⟩
   ·obtain⟨c,n,v,S,l,hv,h0,V,r⟩:=zzd s i d (by rw[y];omega)
    have H:=λK=>zir (P:=prog) wr w.heap.size s i K hit d _ _ v
    have a:=zkb (s:=s) (p:=i+n) hit;have j:=zfD (s:=s) (p:=i+n) hb (Qc _)
    have o:Lib.NoAny s.data.toList zd9 (i+n):=zqn N.out λk hk b I=>by
     have L:i+k<s.size:=by omega
     rw[Xt s (i+k) L]at I;rw[<-QD I];exact zyD _ (r k hk L)
    have u:=hIx a;have f:=hIx j;have X:=hIx o;have hz:=j.size
    have C:w.heap.size<(zdA wr w.heap.size s (i+n)).heap.size:=by
     rw[QV]at a;exact a.1
    have m:=hIx (zmA (c:Int) (zdA wr w.heap.size s (i+n)) (by omega) (by omega) hv);clear v hit hb a j o r hv y t S l;go_wp2_with (go_at_call 233;refine m.out.mono ?_;rintro e w9 ⟨rfl,D⟩)
    go_roundg g
    case measure=>omega
    case rel=>exact⟨i+n,V,by omega,(D.block _ C).trans u.out,f.out.trans (D.mono hz),X.out⟩
  ·obtain rfl:i=s.size:=by omega
   have H:=λK=>zlm (P:=prog) wr w.heap.size s s.size K hit d
   have f:=hIx hb;clear hb;go_wp2;go_ret;exact⟨by rw[Lib.indexAny_none (by rw[<-Lib.size_eq];exact N.out)];rfl,f.out⟩
theorem zw8:(prog.info? 305).map (λi=>(i.zero,i.size))=some (some (.agg (Array.replicate 256 (.bool false))),256):=by kernel_rfl
theorem zx7:∀w,(zeroValue 305).run prog w=.ok (.agg (Array.replicate 256 (.bool false))) w:=(zero_of_info zw8).1
theorem zgT(s:ByteArray)(w:World)(d:s.size<4294967281):
 Calls prog 153 #[.string s,.string (.mk #[34,13,10])] w λe w'=>e=jC (.bool (Lib.containsAny s.data.toList zd9))/\w w':=by
 have a:Calls prog 190 #[.string s,.string (.mk #[34,13,10])] w λe w'=>e=jC (jA (Lib.indexAny s.data.toList zd9))/\w w':=by
  rcases ZI 8 s.size with h|h
  ·refine(strings_IndexAny_long zx7 s (ByteArray.mk #[34,13,10]) w (by decide) h d (by decide) (λj b hb=>?_)).mono λe w' ⟨h1,h2⟩=>⟨h1,?_⟩
   ·have:b∈([34,13,10]:jE):=Xb hb
    simp only[QI,ZY,or_false]at this
    rcases this with rfl|rfl|rfl <;> decide
   ·rw[h2]
    exact WaL.alloc (by simp) _
  ·exact zh4 s w h
 have c:=hIx a;unfold Lib.containsAny;clear a
 go_in
 go_wp2_with fail;refine c.out.mono ?_;rintro e w' ⟨rfl,hb⟩;go_wp2;go_ret;exact⟨rfl,hb⟩
theorem zlC:∀(f g:Nat) (s:jE),s.length<f->s.length<g->zhO f s=zhO g s
 |0,_,_,h,_=>by omega
 |_,0,_,_,h=>by omega
 |f+1,g+1,s,h1,h2=>by
  unfold zhO;cases a:(Lib.cut s nlL).2.2 with
  |false=>rfl
  |true=>
   have b:=zd3 a;have:nlL.length=2:=rfl;rw[zlC f g (Lib.cut s nlL).2.1 (by omega) (by omega)]
theorem ztn(s:jE):zgt s=if (Lib.cut s nlL).2.2=false then none else if (Lib.cut s nlL).1=[]then some (Lib.cut s nlL).2.1 else zgt (Lib.cut s nlL).2.1:=by
 have e:zgt s=if (Lib.cut s nlL).2.2=false then none else if (Lib.cut s nlL).1=[]then some (Lib.cut s nlL).2.1 else zhO s.length (Lib.cut s nlL).2.1:=by
  unfold zgt;rw[zhO]
 rw[e];cases a:(Lib.cut s nlL).2.2 with
 |false=>rfl
 |true=>
  have c:=zd3 a;have:nlL.length=2:=rfl;have b:zhO s.length (Lib.cut s nlL).2.1=zgt (Lib.cut s nlL).2.1:=zlC _ _ _ (by omega) (by omega);rw[b]
theorem zlV(s p:ByteArray)(W:World)(a:s.size<=9223372036854775807):
 Calls prog 128 #[.string s,.string p] W λe w'=>e=jC (.tuple #[.string (bs (Lib.trimSuffix s.data.toList p.data.toList)),.bool (Lib.hasSuffix s.data.toList p.data.toList)])/\w'=W:=strings_CutSuffix s p W a
theorem zd0(s p:ByteArray)(W:World):
 Calls prog 114 #[.string s,.string p] W λe w'=>e=jC (.tuple #[.string (bs (Lib.trimPrefix s.data.toList p.data.toList)),.bool (Lib.hasPrefix s.data.toList p.data.toList)])/\w'=W:=strings_CutPrefix s p W
def ArgAt(g:Nat)(a b:ByteArray)(w:World):Prop:=w.heap[g]? = some (.cells #[.string a,.string b] 163 (0,0))
theorem ArgAt.cells{g:Nat}{a b:ByteArray}{w:World}(h:ArgAt g a b w):w.cell? g=some (.string a)/\w.cell? ⟨g,1,none⟩=some (.string b):=⟨Qf w g 0 _ _ _ h,Qf w g 1 _ _ _ h⟩
theorem ArgAt.free{g:Nat}{a b:ByteArray}{w:World}(h:ArgAt g a b w)(j:Nat):w.frozen? ⟨g,j,none⟩=false:=by
 unfold ArgAt at h;simp[World.frozen?, h]
def zlg(s b:jE)(w:World)(e:Ending)(w':World):Prop:=
 ((
  zkT s b=none/\e=jC (.tuple #[.agg #[.string (.mk #[]),.string (.mk #[])],.string (.mk #[]),.bool false]))\/
  ∃n v r,zkT s b=some ((n,v),r)/\e=jC (.tuple #[.agg #[.string (bs n),.string (bs v)],.string (bs r),.bool true]))/\w w'
theorem znU(s p:jE):(Lib.trimSuffix s p).length<=s.length:=by
 unfold Lib.trimSuffix
 split
 ·exact List.length_take_le' _ _
 ·exact Qc _
def zxc(L:Nat)(b:Option jE)(a:World)(c:Value)(wr:World):Prop:=
 ∃r:jE,c=.string (bs r)/\r.length<=L/\zgt r=b/\a wr
def zjC:Value->Nat
 |.string s=>s.size
 |_=>0
theorem zvF(s b:ByteArray)(w:World)(hs:s.size<=65536)(hb:b.size<=65536)(V:LibOk w):
 Calls prog 115 #[.string s,.string b] w (zlg s.data.toList b.data.toList w):=by
 obtain⟨A,G⟩:∃A,w.alloc (.cells #[.string (.mk #[]),.string (.mk #[])] 163)=A:=⟨_,rfl⟩
 have h9:w.heap.size<A.heap.size:=by rw[<-G];simp
 have hi:w A:=by rw[<-G];exact WaL
 have hg:ArgAt w.heap.size (ByteArray.mk #[]) (ByteArray.mk #[]) A:=by rw[<-G];exact Qt _ _
 have i:Hid (∀W,A W->ArgAt w.heap.size (ByteArray.mk #[]) (ByteArray.mk #[]) W/\w W/\LibOk W):=λW h=>by
  have h2:=hi.trans (h.mono (QX h9));exact⟨(h.block _ h9).trans hg,h2,V.below h2⟩
 obtain⟨c1,c2,c3,q⟩:∃x y z,Lib.cut s.data.toList (ByteArray.mk #[13,10]).data.toList=(x,y,z):=⟨_,_,_,rfl⟩
 have ho:s.data.toList.length=s.size:=by simp
 have Y:=hIx (zhN s (ByteArray.mk #[13,10]) A (by omega) (i.out A (Qj _ _)).2.2 q);have en:(ByteArray.mk #[13,10]).data.toList=nlL:=rfl;rw[en]at q;obtain⟨Z,X⟩:=zcM s.data.toList nlL;rw[q]at Z X;dsimp only at Z X
 have g:Hid (zkT s.data.toList b.data.toList=if (c3&&(za2 c1 zdU).2&&Lib.hasSuffix (za2 c1 zdU).1 [34]&&!Lib.containsAny (Lib.trimSuffix (za2 c1 zdU).1 [34]) zd9)=false then none
  else match zgt c2 with
  |none=>none
  |some r=>if (Lib.cut (nlL++r) (nlL++zbF b.data.toList)).2.2=false then none
   else some ((Lib.trimSuffix (za2 c1 zdU).1 [34],Lib.trimPrefix (Lib.cut (nlL++r) (nlL++zbF b.data.toList)).1 nlL),(Lib.cut (nlL++r) (nlL++zbF b.data.toList)).2.1)):=by
  unfold Hid zkT zpf zxI;rw[q]
  rfl
 have h6:∀W,Calls prog 112 #[.string (bs c1),.string (.mk #[99,111,110,116,101,110,116,45,100,105,115,112,111,115,105,116,105,111,110,58,32,102,111,114,109,45,100,97,116,97,59,32,110,97,109,101,61,34])] W λe w'=>e=jC (.tuple #[.string (bs (za2 c1 zdU).1),.bool (za2 c1 zdU).2])/\W w':=λW=>by
  have:=zmU (bs c1) (ByteArray.mk #[99,111,110,116,101,110,116,45,100,105,115,112,111,115,105,116,105,111,110,58,32,102,111,114,109,45,100,97,116,97,59,32,110,97,109,101,61,34]) W (by rw[zae];unfold maxLen;omega);have eb:(ByteArray.mk #[99,111,110,116,101,110,116,45,100,105,115,112,111,115,105,116,105,111,110,58,32,102,111,114,109,45,100,97,116,97,59,32,110,97,109,101,61,34]).data.toList=zdU:=rfl;rw[zah,eb]at this;exact this
 have hd:=zmC c1 zdU;generalize za2 c1 zdU=F at *;obtain⟨fb,fo⟩:=F;dsimp only at g h6 hd
 have h7:∀W,Calls prog 128 #[.string (bs fb),.string (.mk #[34])] W λe w'=>e=jC (.tuple #[.string (bs (Lib.trimSuffix fb [34])),.bool (Lib.hasSuffix fb [34])])/\w'=W:=λW=>
  zlV (bs fb) (ByteArray.mk #[34]) W (by rw[zae];omega)
 have hv:=znU fb [34];generalize Lib.trimSuffix fb [34]=J at *;generalize Lib.hasSuffix fb [34]=hx at *
 have hc:Hid (∀W,Calls prog 153 #[.string (bs J),.string (.mk #[34,13,10])] W λe w'=>e=jC (.bool (Lib.containsAny J zd9))/\W w'):=λW=>by
  have:=zgT (bs J) W (by rw[zae];omega);rw[zah]at this;exact this
 generalize Lib.containsAny J zd9=ca at *;have ha:=hIx h6;have D:=hIx h7;have hu:=hIx G
 have d:Hid (∀W,zkT s.data.toList b.data.toList=none->A W->zlg s.data.toList b.data.toList w (jC (.tuple #[.agg #[.string (.mk #[]),.string (.mk #[])],.string (.mk #[]),.bool false])) ((W.setCell w.heap.size (.string (.mk #[]))).setCell ⟨w.heap.size,1,none⟩ (.string (.mk #[])))):=λW h1 h2=>
  ⟨.inl ⟨h1,rfl⟩,((i.out W h2).2.1.setCell (p:=⟨w.heap.size,0,none⟩) (Qc _) _).setCell (p:=⟨w.heap.size,1,none⟩) (Qc _) _⟩
 have hq:c2.length<=65536:=by omega
 generalize hn:zkT s.data.toList b.data.toList=PX at *;clear h6 h7 G q en hi hg V Z X ho hd hv
 go_in
 go_upto_region 1 with fail
 rw[hu.out];go_wp2_with (go_at_call 78;apply Hid.out);refine WhM Y ?_;rintro e w1 ⟨rfl,hm⟩;have h4:=hIx hm;clear hm Y;go_wp2_with (go_at_call 112;apply Hid.out);unfold Hid;refine(ha.out w1).mono ?_;rintro e w2 ⟨rfl,he⟩;have m:=hIx (h4.out.trans (he.mono h4.out.size));clear he h4 ha;have N:=(i.out w2 m.out).1;have ⟨E,H⟩:=N.cells;have f0:=N.free 0;have f1:=N.free 1;have k:=hIx (za8 (.string (.mk #[])) (.string (.mk #[])) E H);clear N;cases c3 with
 |false=>
  have C:=hIx (d.out w2 (by rw[g.out];rfl) m.out);clear g d;go_wp2_with (go_at_call 128;apply Hid.out);unfold Hid;refine(D.out _).mono ?_;rintro e w9 ⟨rfl,rfl⟩;go_wp2;exact Qi (v:=.tuple #[.agg #[.string (.mk #[]),.string (.mk #[])],.string (.mk #[]),.bool false]) (by have t:=k.out;simp[results,results115,go_sem,t.1,t.2]) rfl C.out
 |true=>
 cases fo with
 |false=>
  have C:=hIx (d.out w2 (by rw[g.out];rfl) m.out);clear g d;go_wp2_with (go_at_call 128;apply Hid.out);unfold Hid;refine(D.out _).mono ?_;rintro e w9 ⟨rfl,rfl⟩;go_wp2;exact Qi (v:=.tuple #[.agg #[.string (.mk #[]),.string (.mk #[])],.string (.mk #[]),.bool false]) (by have t:=k.out;simp[results,results115,go_sem,t.1,t.2]) rfl C.out
 |true=>
 cases hx with
 |false=>
  have C:=hIx (d.out w2 (by rw[g.out];rfl) m.out);clear g d;go_wp2_with (go_at_call 128;apply Hid.out);unfold Hid;refine(D.out _).mono ?_;rintro e w9 ⟨rfl,rfl⟩;go_wp2;exact Qi (v:=.tuple #[.agg #[.string (.mk #[]),.string (.mk #[])],.string (.mk #[]),.bool false]) (by have t:=k.out;simp[results,results115,go_sem,t.1,t.2]) rfl C.out
 |true=>
 go_wp2_with (go_at_call 128;apply Hid.out);unfold Hid;refine(D.out _).mono ?_;rintro e w9 ⟨rfl,rfl⟩;clear k E H f0 f1;go_wp2_with (go_at_call 153;apply Hid.out);unfold Hid;refine(hc.out _).mono ?_;rintro e w3 ⟨rfl,hf⟩;have T:=hIx (m.out.trans (hf.mono m.out.size));clear hf m hc D;have Q:=(i.out w3 T.out).1;have ⟨E,H⟩:=Q.cells;have f0:=Q.free 0;have f1:=Q.free 1;have k:=hIx (za8 (.string (.mk #[])) (.string (.mk #[])) E H);clear Q;cases ca with
 |true=>
  have C:=hIx (d.out w3 (by rw[g.out];rfl) T.out);clear g d;go_wp2;exact Qi (v:=.tuple #[.agg #[.string (.mk #[]),.string (.mk #[])],.string (.mk #[]),.bool false]) (by have t:=k.out;simp[results,results115,go_sem,t.1,t.2]) rfl C.out
 |false=>
 have O:Hid (zgt c2=none->PX=none):=λh=>by rw[g.out,h];rfl
 have P:Hid (∀r,zgt c2=some r->PX=if (Lib.cut (nlL++r) (nlL++zbF b.data.toList)).2.2=false then none
  else some ((J,Lib.trimPrefix (Lib.cut (nlL++r) (nlL++zbF b.data.toList)).1 nlL),(Lib.cut (nlL++r) (nlL++zbF b.data.toList)).2.1)):=λr h=>by rw[g.out,h];rfl
 clear g k E H f0 f1;generalize h8:zgt c2=SK at *;have hw:Hid (zxc 65536 SK A (.string (bs c2)) w3):=⟨c2,rfl,hq,h8,T.out⟩
 clear h8 T;go_wp2
 go_loopw [8,9,13] (λv8 _ _ wr=>zxc 65536 SK A v8 wr) (λv8 _ _ _=>zjC v8)
 case atStart=>exact hw.out
 case round=>
  obtain⟨r,rfl,hr,K,hB⟩:=hrel;have HB:=hIx hB;obtain⟨a1,B,a3,q⟩:∃x y z,Lib.cut r nlL=(x,y,z):=⟨_,_,_,rfl⟩
  have I:=hIx (zhN (bs r) (ByteArray.mk #[13,10]) wr (by rw[zae];omega) (i.out wr hB).2.2 (a:=a1) (b:=B) (c:=a3) q);obtain⟨Z,X⟩:=zcM r nlL;have f:=ztn r
  have j:a3=true->B.length+2<=r.length:=λh=>by
   have:=zd3 (s:=r) (p:=nlL) (by rw[q];exact h);rw[q]at this;exact this
  rw[q]at Z X f;dsimp only at Z X f;rw[K]at f;clear q hB;go_wp2_with (go_at_call 78;apply Hid.out);refine WhM I ?_;rintro e w4 ⟨rfl,hk⟩;have n:=hIx (HB.out.trans (hk.mono HB.out.size));clear hk HB I;have U:=(i.out w4 n.out).1;have ⟨E,H⟩:=U.cells;have f0:=U.free 0;have f1:=U.free 1;have k:=hIx (za8 (.string (.mk #[])) (.string (.mk #[])) E H);clear U;cases a3 with
  |false=>
   have C:=hIx (d.out w4 (O.out (by rw[f];rfl)) n.out);clear O P d f K;go_wp2;exact Qi (v:=.tuple #[.agg #[.string (.mk #[]),.string (.mk #[])],.string (.mk #[]),.bool false]) (by have t:=k.out;simp[results,results115,go_sem,t.1,t.2]) rfl C.out
  |true=>
  have hy:=j rfl
  by_cases L:a1=[]
  rotate_left
  ·have q1:a1.isEmpty=false:=by cases a1 with|nil=>exact absurd rfl L|cons x l=>rfl
   have ht:Hid (zxc 65536 SK A (.string (bs B)) w4):=⟨B,rfl,by omega,by rw[f,Qe (by decide),Qe L],n.out⟩
   have HL:Hid ((bs B).size<(bs r).size):=by unfold Hid;rw[zae,zae];omega
   clear O P d f K k L j Z X;go_wp2;exact⟨ht.out,HL.out⟩
  ·subst L
   have h0:=hIx (P.out B (by rw[f,Qe (by decide),Qg rfl]));have en:(ByteArray.mk #[13,10]++bs B).data.toList=nlL++B:=by simp[bs,nlL]
   have em:(ByteArray.mk #[13,10,45,45]++b).data.toList=nlL++zbF b.data.toList:=by simp[zbF,nlL]
   obtain⟨v,lf,o,q⟩:∃x y z,Lib.cut (nlL++B) (nlL++zbF b.data.toList)=(x,y,z):=⟨_,_,_,rfl⟩
   have hh:(ByteArray.mk #[13,10]++bs B).size=2+B.length:=by rw[Q5,zae];rfl
   have I:=hIx (zhN (ByteArray.mk #[13,10]++bs B) (ByteArray.mk #[13,10,45,45]++b) w4 (by rw[hh];omega) (i.out w4 n.out).2.2 (a:=v) (b:=lf) (c:=o) (by rw[en,em];exact q));have k1:(ByteArray.mk #[13,10]).size+(bs B).size<=9223372036854775807:=by rw[zae];show 2+B.length<=_;omega
   have k2:(ByteArray.mk #[13,10,45,45]).size+b.size<=9223372036854775807:=by show 4+b.size<=_;omega
   rw[q]at h0;have u:=h0;clear O P f K j Z X k E H f0 f1 h0 hh en em q;go_wp2_with (go_at_call 78;apply Hid.out);refine WhM I ?_;rintro e w5 ⟨rfl,hj⟩;have h5:=hIx (n.out.trans (hj.mono n.out.size));clear hj I n;have S:=(i.out w5 h5.out).1;have ⟨E,H⟩:=S.cells;have f0:=S.free 0;have f1:=S.free 1;clear S;cases o with
   |false=>
    have k:=hIx (za8 (.string (.mk #[])) (.string (.mk #[])) E H);have C:=hIx (d.out w5 (by rw[u.out];rfl) h5.out);clear u d;go_wp2;exact Qi (v:=.tuple #[.agg #[.string (.mk #[]),.string (.mk #[])],.string (.mk #[]),.bool false]) (by have t:=k.out;simp[results,results115,go_sem,t.1,t.2]) rfl C.out
   |true=>
    have h3:=zd0 (bs v) (ByteArray.mk #[13,10]) w5;have eb:(ByteArray.mk #[13,10]).data.toList=nlL:=rfl;rw[zah,eb]at h3
    have C:Hid (zlg s.data.toList b.data.toList w (jC (.tuple #[.agg #[.string (bs J),.string (bs (Lib.trimPrefix v nlL))],.string (bs lf),.bool true])) ((w5.setCell w.heap.size (.string (bs J))).setCell ⟨w.heap.size,1,none⟩ (.string (bs (Lib.trimPrefix v nlL))))):=by
     refine⟨.inr ⟨J,Lib.trimPrefix v nlL,lf,?_,rfl⟩,((i.out w5 h5.out).2.1.setCell (p:=⟨w.heap.size,0,none⟩) (Qc _) _).setCell (p:=⟨w.heap.size,1,none⟩) (Qc _) _⟩;rw[hn,u.out]
     rfl
    have k:=hIx (za8 (.string (bs J)) (.string (bs (Lib.trimPrefix v nlL))) E H);have hp:=hIx h3;clear u h3 eb d;generalize Lib.trimPrefix v nlL=tv at *;go_wp2_with (go_at_call 114;apply Hid.out);refine WhM hp ?_;rintro e w6 ⟨rfl,rfl⟩;go_wp2;exact Qi (v:=.tuple #[.agg #[.string (bs J),.string (bs tv)],.string (bs lf),.bool true]) (by have t:=k.out;simp[results,results115,go_sem,t.1,t.2]) rfl C.out
def zgW(a:zhm):Pair:=(bs a.1,bs a.2)
def zzm(F:Int × List zhm)(b:jE)(most:Int)(base:Nat)(w:World)(a c:Value)(wr:World):Prop:=
 ∃(f:Nat) (u:jE) (out:List zhm),a=.string (bs u)/\u.length<f/\u.length+out.length<=4096/\zgL f u b most out=F/\OwnA wr base c (out.map zgW)/\Below base w wr
def zfv(F:Int × List zhm)(w:World)(e:Ending)(w':World):Prop:=
 ∃v,e=jC (.tuple #[v,jA F.1])/\OwnA w' w.heap.size v (F.2.map zgW)/\w w'
theorem zlG{s p:jE}(h:Lib.hasPrefix s p=true):Lib.trimPrefix s p=s.drop p.length:=by
 unfold Lib.trimPrefix;rw[Qg h]
theorem zqQ(s b:ByteArray)(most:Int)(w:World)(hs:s.size<=maxLen)(hb:b.size<=maxLen)(K:LibOk w):
 Calls prog 82 #[.string s,.string b,jA most] w (zfv (zbn s.data.toList b.data.toList most) w):=by
 have Q:=hIx (zlq b w hb);unfold maxLen at hs hb;have Z:s.data.toList.length=s.size:=by simp
 have C:Hid (zbn s.data.toList b.data.toList most=if zbT b.data.toList=false then (1,[])else if 4096<s.size then (2,[])else if Lib.hasPrefix s.data.toList (zbF b.data.toList)=false then (4,[])else zgL (s.data.toList.length+1) (s.data.toList.drop (zbF b.data.toList).length) b.data.toList most []):=by
  unfold Hid zbn;rw[Z]
 generalize h9:zbn s.data.toList b.data.toList most=F at *;have o:Hid (∀W,w W->LibOk W):=λW h=>K.below h
 have a:Hid (∀x W,F=(x,[])->w W->zfv F w (jC (.tuple #[jD 0 0,jA x])) W):=λx W h h2=>by
  subst h;exact⟨_,rfl,OwnA.nil _ _,h2⟩
 clear K h9;cases j:zbT b.data.toList with
 |false=>
  rw[j]at Q C;have A:=hIx (a.out 1 w C.out (Qj _ _));clear C a o j
  go_in
  go_wp2_with (go_at_call 113;apply Hid.out);refine WhM Q ?_;rintro e D ⟨rfl,rfl⟩;go_wp2;exact Qi (v:=.tuple #[jD 0 0,jA 1]) (by simp[results,results82,go_sem]) rfl A.out
 |true=>
 have hj:=(zh1 j).2;have h8:b.data.toList.length=b.size:=by simp
 have hk:b.size<=70:=by omega
 rw[j]at Q
 by_cases q:4096<s.size
 ·have d1:decide ((4096:Int)<(s.size:Int))=true:=Qu (by omega)
  have A:=hIx (a.out 2 w (by rw[C.out,j,Qe (by decide),Qg q]) (Qj _ _));clear C a o j
  go_in
  go_wp2_with (go_at_call 113;apply Hid.out);refine WhM Q ?_;rintro e D ⟨rfl,rfl⟩;go_wp2;exact Qi (v:=.tuple #[jD 0 0,jA 2]) (by simp[results,results82,go_sem]) rfl A.out
 have d1:decide ((4096:Int)<(s.size:Int))=false:=Qq (by omega);have k2:(ByteArray.mk #[45,45]).size+b.size<=9223372036854775807:=by show 2+b.size<=_;omega
 have c:=zd0 s (ByteArray.mk #[45,45]++b) w;have em:(ByteArray.mk #[45,45]++b).data.toList=zbF b.data.toList:=by simp[zbF]
 rw[em]at c
 have z:Hid (F=if Lib.hasPrefix s.data.toList (zbF b.data.toList)=false then (4,[])else zgL (s.data.toList.length+1) (s.data.toList.drop (zbF b.data.toList).length) b.data.toList most []):=by
  unfold Hid;rw[C.out,j,Qe (by decide),Qe q]
 cases i:Lib.hasPrefix s.data.toList (zbF b.data.toList)with
 |false=>
  rw[i]at c z;have m:=hIx c;have A:=hIx (a.out 4 w z.out (Qj _ _));clear C z a o j c em i
  go_in
  go_wp2_with (go_at_call 113;apply Hid.out);refine WhM Q ?_;rintro e D ⟨rfl,rfl⟩;go_wp2_with (go_at_call 114;apply Hid.out);refine WhM m ?_;rintro e D ⟨rfl,rfl⟩;go_wp2;exact Qi (v:=.tuple #[jD 0 0,jA 4]) (by simp[results,results82,go_sem]) rfl A.out
 |true=>
 rw[zlG i]at c;rw[i]at c z;have m:=hIx c;have h3:(s.data.toList.drop (zbF b.data.toList).length).length<=s.size:=by rw[QM];omega
 have Y:zzm F b.data.toList most w.heap.size w (.string (bs (s.data.toList.drop (zbF b.data.toList).length))) (jD 0 0) w:=
  ⟨s.data.toList.length+1,_,[],rfl,by omega,by show _+0<=4096;omega,z.out.symm,OwnA.nil _ _,Qj _ _⟩
 generalize s.data.toList.drop (zbF b.data.toList).length=u0 at *;have J:=hIx Y;have hd:=hIx j;clear C z c em i Y h3 Z q j hj h8
 go_in
 go_wp2_with (go_at_call 113;apply Hid.out);refine WhM Q ?_;rintro e D ⟨rfl,rfl⟩;go_wp2_with (go_at_call 114;apply Hid.out);refine WhM m ?_;rintro e D ⟨rfl,rfl⟩;go_wp2_with fail;clear Q m d1 k2
 go_loopw [0,8,9,10] (λv0 _ v9 _ wr=>zzm F b.data.toList most D.heap.size D v0 v9 wr) (λv0 _ _ _ _=>zjC v0)
 case atStart=>exact J.out
 case round=>
  obtain⟨f,u,out,rfl,hf,ho,l,X,hB⟩:=hrel;obtain⟨Ao,co,rfl,_⟩:=X.form;have N:=hIx X;have B:=hIx hB;have H:=hB.size;obtain⟨g,rfl⟩:∃g,f=g+1:=⟨f-1,by omega⟩
  rw[zgL]at l
  by_cases k:u=[45,45,13,10]
  ·rw[Qg k]at l
   subst k;have A:Hid (zfv F D (jC (.tuple #[.slice Ao (out.map zgW).length co,jA 0])) wr):=by subst l;exact⟨_,rfl,N.out,B.out⟩
   clear l X hB N B a J;go_wp2;exact Qi (v:=.tuple #[.slice Ao (out.map zgW).length co,jA 0]) (by simp[results,results82,go_sem]) rfl A.out
  rw[Qe k]at l;have q1:(u==[45,45,13,10])=false:=Qb.2 k;have c:=zd0 (bs u) (ByteArray.mk #[13,10]) wr;have eb:(ByteArray.mk #[13,10]).data.toList=nlL:=rfl;rw[zah,eb]at c;clear eb;cases i:Lib.hasPrefix u nlL with
  |false=>
   rw[i]at c l;have m:=hIx c;have A:=hIx (a.out 4 wr (by rw[<-l];rfl) B.out);clear l X hB N B a J c i k;go_wp2_with (go_at_call 114;apply Hid.out);refine WhM m ?_;rintro e w2 ⟨rfl,rfl⟩;go_wp2;exact Qi (v:=.tuple #[jD 0 0,jA 4]) (by simp[results,results82,go_sem]) rfl A.out
  |true=>
  rw[zlG i]at c;have e2:nlL.length=2:=rfl;rw[e2]at c;rw[i]at c l;rw[Qe (by decide)]at l;have h3:(u.drop 2).length<=u.length:=by rw[QM];omega
  generalize u.drop 2=t at *;have m:=hIx c;clear c i k e2 X hB J;have h0:(out.map zgW).length=out.length:=Qh _;generalize h5:out.map zgW=V at *;have P:=hIx h0;have he:=hIx h5;clear h0 h5;have G:wr.heap.size<(wr.alloc (.cells #[.string (.mk #[]),.string (.mk #[])] 163)).heap.size:=by simp
  have L:wr (wr.alloc (.cells #[.string (.mk #[]),.string (.mk #[])] 163)):=WaL;have T:=zvF (bs t) b (wr.alloc (.cells #[.string (.mk #[]),.string (.mk #[])] 163)) (by rw[zae];omega) (by omega) (o.out _ (B.out.trans (L.mono H)));rw[zah]at T;have h7:=hIx T;clear T;go_wp2_with (go_at_call 114;apply Hid.out);refine WhM m ?_;rintro e w2 ⟨rfl,rfl⟩;go_wp2_with (go_at_call 115;apply Hid.out);refine WhM h7 ?_;rintro e U ⟨hP,I⟩;have E:ArgAt w2.heap.size (ByteArray.mk #[]) (ByteArray.mk #[]) U:=(I.block _ G).trans (Qt _ _);have h6:w2 U:=L.trans (I.mono (QX G));have hn:w2.heap.size<U.heap.size:=Qv G I.size
  have O:Hid (∀x y,w2 ((U.setCell w2.heap.size x).setCell ⟨w2.heap.size,1,none⟩ y)):=λx y=>
   (h6.setCell (p:=⟨w2.heap.size,0,none⟩) (Qc _) _).setCell (p:=⟨w2.heap.size,1,none⟩) (Qc _) _
  have ⟨z0,z1⟩:=E.cells;have f0:=E.free 0;have f1:=E.free 1;clear h7 m L G I E h6
  rcases hP with ⟨S,rfl⟩|⟨n,v,r,S,rfl⟩
  ·have TT:=hIx (za8 (.string (.mk #[])) (.string (.mk #[])) z0 z1)
   have A:=hIx (a.out 4 _ (by rw[<-l,S]) (B.out.trans ((O.out (.string (.mk #[])) (.string (.mk #[]))).mono H)));clear l S a O B N o;go_wp2;exact Qi (v:=.tuple #[jD 0 0,jA 4]) (by simp[results,results82,go_sem]) rfl A.out
  have TT:=hIx (za8 (.string (bs n)) (.string (bs v)) z0 z1);rw[S]at l;dsimp only at l;have hm:=(zrR hd.out S).2
  by_cases d:most<=(out.length:Int)
  ·have d2:decide (most<=(V.length:Int))=true:=Qu (by rw[P.out];exact d)
   have A:=hIx (a.out 2 _ (by rw[<-l,Qg d]) (B.out.trans ((O.out (.string (bs n)) (.string (bs v))).mono H)));clear l S a O B N o d;go_wp2;exact Qi (v:=.tuple #[jD 0 0,jA 2]) (by simp[results,results82,go_sem]) rfl A.out
  ·have d2:decide (most<=(V.length:Int))=false:=Qq (by rw[P.out];exact d)
   rw[Qe d]at l;have C:=hIx l;have ha:=hIx (N.out.below (O.out (.string (bs n)) (.string (bs v))));have h4:=hIx (B.out.trans ((O.out (.string (bs n)) (.string (bs v))).mono H));have hc:Hid (D.heap.size<=((U.setCell w2.heap.size (.string (bs n))).setCell ⟨w2.heap.size,1,none⟩ (.string (bs v))).heap.size):=h4.out.size;have HM:Hid ((out++[(n,v)]).map zgW=V++[(bs n,bs v)]):=by unfold Hid;rw[Q2,he.out];rfl
   have hh:V.length<=4194304:=by have:=P.out;omega
   clear l S a O B N o d;have t0:=TT.out.1;have t1:=TT.out.2;go_wp2_with (at_builtin;refine zaZ rfl (.tmp 48) (.tmp 50) rfl D.heap.size (.slice Ao V.length co) V rfl ha.out hc.out _ (bs n,bs v) rfl U.heap.size (by simp) 1 rfl hh ?_;intro v9 w9 hg hi hq hr);exact⟨⟨g,r,out++[(n,v)],rfl,by omega,by rw[Qa,QC];omega,C.out,by rw[HM.out];exact hg,h4.out.trans hi⟩,by show (bs r).size<(bs u).size;rw[zae,zae];omega⟩
