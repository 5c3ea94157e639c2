/- Lemmas for the last texts. -/
import Derived.Test.YtfhaojhofiocaaaGreatDoorM20
import Derived.Laws.RangeString
import Derived.Deep.LoopGhost
set_option maxHeartbeats 6400000
set_option maxRecDepth 100000
namespace Go.Proofs.YtfhaojhofiocaaaGreatDoor
open Go.RowKit Go.Proofs.Tryz
attribute [go_sem] results202 results186
def zeE:jE:=[39,43,95,45,46]
theorem zwD{b:UInt8}{c i:Int}(a:c=(b|||32).toNat)(d:i=Lib.indexByte zeE b)(h:(97<=c/\c<=122)\/(48<=(b.toNat:Int)/\(b.toNat:Int)<=57)\/0<=i):bndB b=true:=by
 subst d;subst a
 unfold bndB letB zeE at *;simp only[Xh,Q3,QX];omega
theorem zy9{b:UInt8}{c i:Int}(a:c=(b|||32).toNat)(d:i=Lib.indexByte zeE b)(h:¬((97<=c/\c<=122)\/(48<=(b.toNat:Int)/\(b.toNat:Int)<=57)\/0<=i)):bndB b=false:=by
 subst d;subst a
 unfold bndB letB zeE at *;simp only[Xx,Bool.and_eq_false_iff,XE];omega
def zwq(s:ByteArray)(i:Value):Prop:=∃k:Nat,k<=s.size/\i=jA k/\s.data.toList.all bndB=(s.data.toList.drop k).all bndB
theorem zlg(s:ByteArray)(w:World)(v:s.size<=maxLen):
 Calls prog 203 #[.string s] w λe w'=>e=jC (.bool (zbW s.data.toList))/\w'=w:=by
 unfold maxLen at v;have m:Hid (s.data.toList.length=s.size):=by unfold Hid;simp
 go_in
 go_wp2_with fail
 go_loop [8] (λi=>zwq s i) (λi=>s.size-(intOf i).toNat)
 case atStart=>exact⟨0,Qn _,rfl,rfl⟩
 case round=>
  obtain⟨k,y,rfl,n⟩:=hrel;have a:=hIx n;clear n
  by_cases d:k<s.size
  ·have j:=hIx (zaH s k d)
   have r:=s[k].toNat_lt;obtain⟨c,g⟩:∃c:Int,c=(s[k]|||32).toNat:=⟨_,rfl⟩
   have u:bits BinOp.or IntKind.u8 (s[k].toNat:Int) 32=c:=by
    rw[g,UInt8.toNat_or];exact u8_or_nat _ _ s[k].toNat_lt (by decide)
   have h:=hIx g;clear g;obtain⟨o,q⟩:∃o:Int,o=Lib.indexByte zeE s[k]:=⟨_,rfl⟩
   have b:=hIx q;clear q;go_wp2_with (go_at_call 111;refine(strings_IndexByte _ _ _).mono ?_;rintro e w' ⟨rfl,rfl⟩;rw[zep,show (ByteArray.mk #[39,43,95,45,46]).data.toList=zeE from rfl,<-b.out])
   all_goals first
    |(
     go_ret
     exact⟨zaQ (by unfold zbW;rw[a.out,j.out,ZM,zy9 h.out b.out (by omega)];rfl),rfl⟩)
    |(
     try simp only[Bool.not_eq_eq_eq_not,Bool.not_false,QX]at *
     exact⟨⟨k+1,by omega,by go_num,by rw[a.out,j.out,ZM,zwD h.out b.out (by omega)];rfl⟩,by simp[intOf];omega⟩)
    |(
     go_round
     case rel=>exact⟨k+1,by omega,by go_num,by rw[a.out,j.out,ZM,zwD h.out b.out (by omega)];rfl⟩
     case measure=>simp[intOf] <;> omega)
  ·have x:Hid (s.data.toList.all bndB=true):=by
    unfold Hid;rw[a.out,QM (by rw[m.out];omega)];rfl
   have f:Hid (zbW s.data.toList=(decide (1<=s.size)&&decide (s.size<=70))):=by
    unfold Hid zbW;rw[x.out,m.out];rfl
   by_cases h1:1<=s.size
   ·by_cases h2:s.size<=70
    ·have l:decide ((1:Int)<=(s.size:Int))=true:=by simp;omega
     have t:decide ((s.size:Int)<=70)=true:=by simp;omega
     go_wp2;go_ret;exact⟨zaQ (by rw[f.out,Qx h1,Qx h2];rfl),rfl⟩
    ·have l:decide ((1:Int)<=(s.size:Int))=true:=by simp;omega
     have t:decide ((s.size:Int)<=70)=false:=by simp;omega
     go_wp2;go_ret;exact⟨zaQ (by rw[f.out,Qx h1,Qt h2];rfl),rfl⟩
   ·have l:decide ((1:Int)<=(s.size:Int))=false:=by simp;omega
    go_wp2;go_ret;exact⟨zaQ (by rw[f.out,Qt h1];rfl),rfl⟩
theorem zmN(s p:ByteArray)(w:World)(o:s.size<=maxLen):
 Calls prog 202 #[.string s,.string p] w λe w'=>e=jC (.tuple #[.string (bs (za5 s.data.toList p.data.toList).1),.bool (za5 s.data.toList p.data.toList).2])/\w w':=by
 unfold maxLen at o;have j:s.data.toList.length=s.size:=by simp
 have g:p.data.toList.length=p.size:=by simp
 by_cases l:s.size<p.size
 ·have n:decide ((s.size:Int)<(p.size:Int))=true:=by simp;omega
  have f:Hid (za5 s.data.toList p.data.toList=(s.data.toList,false)):=by unfold Hid za5;rw[Qj (.inl (by omega))]
  rw[f.out];dsimp only;rw[zeT]
  go_in
  go_wp2;exact zad ⟨rfl,Qi _ _⟩
 ·have n:decide ((s.size:Int)<(p.size:Int))=false:=by simp;omega
  have q:(p.size:Int)<=(s.size:Int):=by omega
  have c:(s.extract 0 p.size).data.toList=s.data.toList.take p.size:=by rw[ZL];simp
  have b:=hIx (zbg (s.extract 0 p.size) w (by unfold maxLen;rw[Xb];omega));have d:s.extract p.size s.size=bs (s.data.toList.drop p.size):=ziI (Lib.extract_to_end s p.size);rw[c]at b;have i:=hIx d
  by_cases a:zaB (s.data.toList.take p.size)=p.data.toList
  ·have f:Hid (za5 s.data.toList p.data.toList=(s.data.toList.drop p.size,true)):=by
    unfold Hid za5;rw[g,Qf];rintro(h|h)
    ·omega
    ·exact h a
   rw[f.out];dsimp only;rw[<-i.out];have m:((bs (zaB (s.data.toList.take p.size))).toList==p.toList)=true:=by rw[zgk,a,QU];simp
   generalize bs (zaB (s.data.toList.take p.size))=X at *;clear a c d j g
   go_in
   go_wp2_with fail;refine b.out.mono ?_;rintro e k ⟨rfl,hb⟩;go_wp2;exact zad ⟨rfl,hb⟩
  ·have f:Hid (za5 s.data.toList p.data.toList=(s.data.toList,false)):=by
    unfold Hid za5;rw[g,Qj (.inr a)]
   rw[f.out];dsimp only;rw[zeT];have m:((bs (zaB (s.data.toList.take p.size))).toList==p.toList)=false:=by rw[zgk,QU];exact Qc.2 a
   generalize bs (zaB (s.data.toList.take p.size))=X at *;clear a c d j g
   go_in
   go_wp2_with fail;refine b.out.mono ?_;rintro e k ⟨rfl,hb⟩;go_wp2;exact zad ⟨rfl,hb⟩
def mfL:jE:=[109,117,108,116,105,112,97,114,116,47,102,111,114,109,45,100,97,116,97]
def bdL:jE:=[98,111,117,110,100,97,114,121,61]
def unqR(b:jE):jE:=if 2<=b.length/\b[0]? = some 34/\b[b.length-1]? = some 34 then (b.drop 1).take (b.length-2)else b
def bdyR(v:jE):jE × Bool:=
 if zaB (Lib.cut v [59]).1≠mfL\/(za5 (zaI (Lib.cut v [59]).2.1) bdL).2=false then ([],false)
 else if zbW (unqR (za5 (zaI (Lib.cut v [59]).2.1) bdL).1)=false then ([],false)else (unqR (za5 (zaI (Lib.cut v [59]).2.1) bdL).1,true)
theorem zwd(s:ByteArray)(i:Nat)(h:i<s.size)(x:UInt8):(s.data.toList[i]? = some x)=((s[i].toNat:Int)=(x.toNat:Int)):=by
 rw[Xt s i h,propext_iff]
 constructor
 ·intro e;rw[QG e]
 ·intro e;rw[Lib.byte_eq_of_toNat e]
theorem zhP(s d:ByteArray)(W:World)(h:s.size<4294967281)(hl:LibOk W){a b:jE}{c:Bool}(i:Lib.cut s.data.toList d.data.toList=(a,b,c)):
 Calls prog 73 #[.string s,.string d] W λe w'=>e=jC (.tuple #[.string (bs a),.string (bs b),.bool c])/\W w':=by
 obtain⟨g,f⟩:=hl;refine(strings_Cut s d g W h f).mono ?_;rintro e w' ⟨rfl,n,rfl⟩;rw[i];exact⟨rfl,below_drewN (Qi _ _) n⟩
theorem zyd{v b a:jE}{d:Bool}(c:Lib.cut v [59]=(b,a,d)):bdyR v=if zaB b≠mfL\/(za5 (zaI a) bdL).2=false then ([],false)
 else if zbW (unqR (za5 (zaI a) bdL).1)=false then ([],false)else (unqR (za5 (zaI a) bdL).1,true):=by
 unfold bdyR;rw[c]
theorem zhN(l:jE):(zaI l).length<=l.length:=by
 unfold zaI zc4;rw[List.length_reverse];refine Ql (XI _).length_le ?_;rw[List.length_reverse];exact(XI _).length_le
theorem zmw(s p:jE):(za5 s p).1.length<=s.length:=by
 unfold za5
 split
 ·exact Qd _
 ·show (s.drop _).length<=_;rw[QJ];omega
theorem zlW(v:ByteArray)(w:World)(hv:v.size<4294967281)(z:LibOk w):
 Calls prog 186 #[.string v] w λe w'=>e=jC (.tuple #[.string (bs (bdyR v.data.toList).1),.bool (bdyR v.data.toList).2])/\w w':=by
 obtain⟨H,u,cc,S⟩:∃a b c,Lib.cut v.data.toList (ByteArray.mk #[59]).data.toList=(a,b,c):=⟨_,_,_,rfl⟩
 have B:=hIx (zhP v (ByteArray.mk #[59]) w hv z S);have T:(ByteArray.mk #[59]).data.toList=[59]:=rfl;rw[T]at S;obtain⟨l1,Z⟩:=zcP v.data.toList [59];have h3:v.data.toList.length=v.size:=by simp
 have x:=hIx (zyd S);generalize bdyR v.data.toList=R at *;rw[S]at l1 Z;dsimp only at l1 Z
 have Q:Hid (∀W,Calls prog 78 #[.string (bs u)] W λe w'=>e=jC (.string (bs (zaI u)))/\w'=W):=λW=>by
  have:=zdG (bs u) W (by rw[zah];unfold maxLen;omega);rw[zam]at this;exact this
 have h4:=zhN u
 have N:Hid (∀W,Calls prog 116 #[.string (bs H)] W (zbJ (bs (zaB H)) W)):=λW=>by
  have:=zbg (bs H) W (by rw[zah];unfold maxLen;omega);rw[zam]at this;exact this
 have G:∀W,Calls prog 202 #[.string (bs (zaI u)),.string (.mk #[98,111,117,110,100,97,114,121,61])] W λe w'=>e=jC (.tuple #[.string (bs (za5 (zaI u) bdL).1),.bool (za5 (zaI u) bdL).2])/\W w':=λW=>by
  have:=zmN (bs (zaI u)) (ByteArray.mk #[98,111,117,110,100,97,114,121,61]) W (by rw[zah];unfold maxLen;omega);have eb:(ByteArray.mk #[98,111,117,110,100,97,114,121,61]).data.toList=bdL:=rfl;rw[zam,eb]at this;exact this
 have K:=zmw (zaI u) bdL;generalize za5 (zaI u) bdL=F at *;obtain⟨d,fo⟩:=F;dsimp only at x G K;have J:=hIx G
 have y:Hid (∀(l:jE) W,l.length<=v.size->Calls prog 203 #[.string (bs l)] W λe w'=>e=jC (.bool (zbW l))/\w'=W):=λl W h=>by
  have:=zlg (bs l) W (by rw[zah];unfold maxLen;omega);rw[zam]at this;exact this
 have D:d.length<=v.size:=by omega
 generalize zaI u=tb at *;generalize hX:bs (zaB H)=X at *
 have q1:((X.toList==[109,117,108,116,105,112,97,114,116,47,102,111,114,109,45,100,97,116,97])=true)=(zaB H=mfL):=by
  rw[<-hX,zgk,Zn];rfl
 have I:=hIx q1;clear G S T hX q1 h4 K l1 Z h3 z
 go_in
 go_wp2_with (go_at_call 73;apply Hid.out);refine WhM B ?_;rintro e w1 ⟨rfl,Y⟩;have E:=hIx Y;clear Y B;go_wp2_with (first|(go_at_call 78;refine(Q.out _).mono ?_;rintro e A ⟨rfl,q⟩;rw[q])|(go_at_call 202;apply Hid.out));unfold Hid;refine(J.out w1).mono ?_;rintro e w2 ⟨rfl,O⟩;have C:=hIx (E.out.trans (O.mono E.out.size));clear O E J Q;go_wp2_with (go_at_call 116;apply Hid.out);unfold Hid;refine(N.out w2).mono ?_;rintro e w3 ⟨rfl,P⟩;have k:=hIx (C.out.trans (P.mono C.out.size));clear P C N
 by_cases r:(X.toList==[109,117,108,116,105,112,97,114,116,47,102,111,114,109,45,100,97,116,97])=true
 ·have h0:Hid (zaB H=mfL):=by rw[<-I.out];exact r
  cases fo with
  |false=>
   have j:Hid (R=([],false)):=by unfold Hid;rw[x.out,Qj (.inr rfl)]
   go_wp2;exact QD (v:=.tuple #[.string (.mk #[]),.bool false]) (by simp[results,results186,go_sem]) rfl ⟨by rw[j.out];rfl,k.out⟩
  |true=>
   have j:Hid (R=if zbW (unqR d)=false then ([],false)else (unqR d,true)):=by
    unfold Hid;rw[x.out,Qf];rintro(h|h)
    ·exact h h0.out
    ·cases h
   have s:(bs d).size=d.length:=zah d;have t:(bs d).data.toList=d:=rfl;have V:Hid (unqR d=if 2<=d.length/\d[0]? = some 34/\d[d.length-1]? = some 34 then (d.drop 1).take (d.length-2)else d):=rfl;have m:∀i (h:i<(bs d).size),(d[i]? = some 34)=(((bs d)[i].toNat:Int)=34):=λi h=>zwd (bs d) i h 34
   by_cases c1:2<=d.length
   ·have d1:decide ((2:Int)<=(d.length:Int))=true:=by simp;omega
    have i1:(0:Int)<(d.length:Int):=by omega
    have i2:IntKind.i64.wrap ((d.length:Int)-1)=(d.length:Int)-1:=Qz _ (by omega);have i3:(0:Int)<=(d.length:Int)-1:=by omega
    have i4:(d.length:Int)-1<(d.length:Int):=by omega
    have i5:((d.length:Int)-1).toNat=d.length-1:=by omega
    have i6:(1:Int)<=(d.length:Int)-1:=by omega
    have i7:(d.length:Int)-1<=(d.length:Int):=by omega
    by_cases c2:d[0]? = some 34
    ·have q2:(((bs d)[0]'(by rw[s];omega)).toNat:Int)=34:=by rw[<-m];exact c2
     by_cases c3:d[d.length-1]? = some 34
     ·have q3:(((bs d)[d.length-1]'(by rw[s];omega)).toNat:Int)=34:=by rw[<-m];exact c3
      have o:Hid (unqR d=(d.drop 1).take (d.length-2)):=by unfold Hid;rw[V.out,Qj ⟨c1,c2,c3⟩]
      have h5:(bs d).extract 1 (d.length-1)=bs ((d.drop 1).take (d.length-2)):=ziI (by rw[ZL,t,show d.length-1-1=d.length-2 by omega]);have L:((d.drop 1).take (d.length-2)).length<=v.size:=by rw[QK];omega
      rw[o.out]at j;obtain⟨U,hU⟩:∃U,(d.drop 1).take (d.length-2)=U:=⟨_,rfl⟩
      rw[hU]at j h5 L;clear hU o V;have f:=hIx (y.out (U) w3 L);clear m t;cases n:zbW (U)with
      |true=>
       rw[n]at f j;have g:Hid (R=(U,true)):=by unfold Hid;rw[j.out,Qf (by decide)]
       clear n;go_wp2_with (go_at_call 203;refine f.out.mono ?_;rintro e A ⟨rfl,q⟩;rw[q]);exact zad ⟨by rw[g.out],k.out⟩
      |false=>
       rw[n]at f j;have g:Hid (R=([],false)):=by unfold Hid;rw[j.out,Qj rfl]
       clear n;go_wp2_with (go_at_call 203;refine f.out.mono ?_;rintro e A ⟨rfl,q⟩;rw[q]);exact QD (v:=.tuple #[.string (.mk #[]),.bool false]) (by simp[results,results186,go_sem]) rfl ⟨by rw[g.out];rfl,k.out⟩
     ·have q3:((((bs d)[d.length-1]'(by rw[s];omega)).toNat:Int)==34)=false:=Qc.2 (by rw[<-m]at *;intro e;apply c3;rw[m _ (by rw[s];omega)];exact e)
      have o:Hid (unqR d=d):=by unfold Hid;rw[V.out,Qf (λh=>c3 h.2.2)]
      rw[o.out]at j;have f:=hIx (y.out (d) w3 D);clear m t;cases n:zbW (d)with
      |true=>
       rw[n]at f j;have g:Hid (R=(d,true)):=by unfold Hid;rw[j.out,Qf (by decide)]
       clear n;go_wp2_with (go_at_call 203;refine f.out.mono ?_;rintro e A ⟨rfl,q⟩;rw[q]);exact zad ⟨by rw[g.out],k.out⟩
      |false=>
       rw[n]at f j;have g:Hid (R=([],false)):=by unfold Hid;rw[j.out,Qj rfl]
       clear n;go_wp2_with (go_at_call 203;refine f.out.mono ?_;rintro e A ⟨rfl,q⟩;rw[q]);exact QD (v:=.tuple #[.string (.mk #[]),.bool false]) (by simp[results,results186,go_sem]) rfl ⟨by rw[g.out];rfl,k.out⟩
    ·have q2:((((bs d)[0]'(by rw[s];omega)).toNat:Int)==34)=false:=Qc.2 (by intro e;apply c2;rw[m _ (by rw[s];omega)];exact e)
     have o:Hid (unqR d=d):=by unfold Hid;rw[V.out,Qf (λh=>c2 h.2.1)]
     rw[o.out]at j;have f:=hIx (y.out (d) w3 D);clear m t;cases n:zbW (d)with
     |true=>
      rw[n]at f j;have g:Hid (R=(d,true)):=by unfold Hid;rw[j.out,Qf (by decide)]
      clear n;go_wp2_with (go_at_call 203;refine f.out.mono ?_;rintro e A ⟨rfl,q⟩;rw[q]);exact zad ⟨by rw[g.out],k.out⟩
     |false=>
      rw[n]at f j;have g:Hid (R=([],false)):=by unfold Hid;rw[j.out,Qj rfl]
      clear n;go_wp2_with (go_at_call 203;refine f.out.mono ?_;rintro e A ⟨rfl,q⟩;rw[q]);exact QD (v:=.tuple #[.string (.mk #[]),.bool false]) (by simp[results,results186,go_sem]) rfl ⟨by rw[g.out];rfl,k.out⟩
   ·have d1:decide ((2:Int)<=(d.length:Int))=false:=by simp;omega
    have o:Hid (unqR d=d):=by unfold Hid;rw[V.out,Qf (λh=>c1 h.1)]
    rw[o.out]at j;have f:=hIx (y.out (d) w3 D);clear m t;cases n:zbW (d)with
    |true=>
     rw[n]at f j;have g:Hid (R=(d,true)):=by unfold Hid;rw[j.out,Qf (by decide)]
     clear n;go_wp2_with (go_at_call 203;refine f.out.mono ?_;rintro e A ⟨rfl,q⟩;rw[q]);exact zad ⟨by rw[g.out],k.out⟩
    |false=>
     rw[n]at f j;have g:Hid (R=([],false)):=by unfold Hid;rw[j.out,Qj rfl]
     clear n;go_wp2_with (go_at_call 203;refine f.out.mono ?_;rintro e A ⟨rfl,q⟩;rw[q]);exact QD (v:=.tuple #[.string (.mk #[]),.bool false]) (by simp[results,results186,go_sem]) rfl ⟨by rw[g.out];rfl,k.out⟩
 ·have h6:(X.toList==[109,117,108,116,105,112,97,114,116,47,102,111,114,109,45,100,97,116,97])=false:=by simpa using r
  have j:Hid (R=([],false)):=by unfold Hid;rw[x.out,Qj (.inl (λh=>r (by rw[I.out];exact h)))]
  clear r;go_wp2;exact QD (v:=.tuple #[.string (.mk #[]),.bool false]) (by simp[results,results186,go_sem]) rfl ⟨by rw[j.out];rfl,k.out⟩
attribute [go_sem] results157
def ckP(x:jE):Pair:=(bs (Lib.cut x [61]).1,bs (Lib.cut x [61]).2.1)
def ckX(x:jE):List Pair:=if (zaI x).isEmpty then []else [ckP (zaI x)]
def ckL(s:jE):List Pair:=(splL 59 s).flatMap ckX
def zci(a:List ByteArray):List Pair:=a.flatMap λs=>ckL s.data.toList
theorem zqj(a:List ByteArray)(k:Nat)(h:k<a.length):zci (a.take (k+1))=zci (a.take k)++(splL 59 a[k].data.toList).flatMap ckX:=by
 unfold zci;rw[Qu h,Q7,QV,XC,QO]
 rfl
theorem zvl(a:List jE)(j:Nat)(h:j<a.length):(a.take (j+1)).flatMap ckX=(a.take j).flatMap ckX++ckX a[j]:=by
 rw[Qu h,Q7,QV,XC,QO]
theorem zzb(a:List jE)(j:Nat):((a.take j).flatMap ckX).length<=(a.flatMap ckX).length:=by
 have:(a.take j).flatMap ckX++(a.drop j).flatMap ckX=a.flatMap ckX:=by rw[<-Q7,Zt]
 rw[<-this,Qb];omega
theorem zox(a:List ByteArray)(k:Nat):(zci (a.take k)).length<=(zci a).length:=by
 have:zci (a.take k)++zci (a.drop k)=zci a:=by unfold zci;rw[<-Q7,Zt]
 rw[<-this,Qb];omega
def zfJ(most:Int)(a:List ByteArray)(w:World)(e:Ending)(w':World):Prop:=
 ((zci a).length<=most.toNat/\∃v,e=jC (.tuple #[v,jA 0])/\OwnA w' w.heap.size v (zci a)/\w w')\/(most.toNat<(zci a).length/\e=jC (.tuple #[jD 0 0,jA 2])/\w w')
def zq9(a:List ByteArray)(most:Int)(w:World)(v i:Value)(wr:World):Prop:=
 ∃k:Nat,k<=a.length/\i=jA k/\OwnA wr w.heap.size v (zci (a.take k))/\Hid ((zci (a.take k)).length<=most.toNat)/\w wr
def CkIn(a:List Pair)(qs:List jE)(b:List ByteArray)(c:Nat)(most:Int)(w:World)(v i:Value)(wr:World):Prop:=
 ∃j:Nat,j<=b.length/\i=jA j/\OwnA wr w.heap.size v (a++(qs.take j).flatMap ckX)/\Hid ((a++(qs.take j).flatMap ckX).length<=most.toNat)/\w wr/\wr.heap[c]? = some (.cells (b.map Value.string).toArray 9 (0,0))
theorem zm5(d:List ByteArray)(A:Option Addr)(c:Nat)(most:Int)(w:World)(h:Sl w w.heap.size 1 A d.length (d.map Value.string))(hs:∀s∈d,s.size<=4194304)(hl:d.length<=4194304)(hm:most<=4194304)(T:LibOk w):
 Calls prog 157 #[.slice A d.length c,jA most] w (zfJ most d w):=by
 have hI:Hid (∀W,w W->∀k (hk:k<d.length),∃b D,A=some ⟨b,D,none⟩/\W.cell? ⟨b,D+k,none⟩=some (.string d[k])):=λW hb k hk=>by
  obtain⟨b,D,e,ht,hc⟩:=h.src (by rw[Qk];omega);refine⟨b,D,e,(hb.cell ht).trans ?_⟩;rw[hc k (by rw[Qk];exact hk),Zo]
 have hd:Hid (∀W,w W->LibOk W):=λW hb=>T.below hb
 have HS:=hIx hs;clear h hs T
 go_in
 go_wp2
 go_loopw [6,16] (λv i wr=>zq9 d most w v i wr) (λ_ i _=>d.length-(intOf i).toNat)
 case atStart=>exact⟨0,Qn _,rfl,OwnA.nil _ _,Qn _,Qi _ _⟩
 case round=>
  obtain⟨k,hk,rfl,u,a,z⟩:=hrel;have hh:=zox d k;obtain⟨Ao,co,rfl,_⟩:=u.form
  by_cases h4:k<d.length
  ·have i7:IntKind.i64.wrap ((k:Int)+1)=(k:Int)+1:=Qz _ (by omega)
   have hr:decide ((k:Int)<(d.length:Int))=true:=by simp;omega
   obtain⟨b,D,rfl,x0⟩:=hI.out wr z k h4;obtain⟨m0,C⟩:=hd.out wr z;have hT:=HS.out d[k] (QC h4);have O:=hIx (zqj d k h4);have F:=zox d (k+1);generalize d[k]=X at *;have H:=strings_Split X ⟨#[59]⟩ m0 wr (by omega) C (by decide);have E:=zb1 59 X;have P:=Z9 ⟨#[59]⟩ (by decide) 0 _ X rfl;generalize Lib.splitB ⟨#[59]⟩ 0 (Lib.countB X ⟨#[59]⟩) X=q at H E P;generalize Lib.countB X ⟨#[59]⟩=n at H P;rw[<-P]at H;have hv:X.data.toList.length=X.size:=by simp
   have hE:(splL 59 X.data.toList).length=q.length:=by rw[<-E,Qk]
   have hf:Hid (∀p∈q,p.size<=4194304):=λp hp=>by
    have hm:p.data.toList∈splL 59 X.data.toList:=by rw[<-E];exact QS.2 ⟨p,hp,rfl⟩
    have h1:=zbY 59 X.data.toList _ hm;have h3:p.data.toList.length=p.size:=by simp
    omega
   have hU:q.length<=4194305:=by have:=zdL 59 X.data.toList;omega
   have h9:Hid (∀j (h:j<q.length) (h2:j<(splL 59 X.data.toList).length),q[j].data.toList=(splL 59 X.data.toList)[j]):=λj h h2=>by simp[<-E]
   have ha:=hIx H;clear H E P C hv;generalize splL 59 X.data.toList=qs at *;have V:Hid ((zci (d.take k)++qs.flatMap ckX).length<=(zci d).length):=by unfold Hid;rw[<-O.out];exact F
   have Y:Hid (most.toNat<(zci (d.take k)++qs.flatMap ckX).length->most.toNat<(zci d).length):=λh=>Qw h V.out
   generalize hG:zci (d.take k)=l at *;have y:=hIx u;have o:=hIx z;clear u z hh F hG;go_wp2_with fail;refine ha.out.mono ?_;rintro e w3 ⟨rfl,h6⟩;have h5:wr w3:=by rw[h6];exact WaL
   have hg:w3.heap[wr.heap.size]? = some (.cells (q.map Value.string).toArray 9 (0,0)):=by rw[h6];exact Qv wr _
   have hN:Hid (CkIn l qs q wr.heap.size most w (.slice Ao l.length co) (jA 0) w3):=⟨0,Qn _,rfl,by simpa using y.out.below h5,by simpa using a,o.out.trans (h5.mono o.out.size),hg⟩
   have hV:=o.out.size;clear h6 h5 hg ha y o a;obtain⟨wo,rfl⟩:∃wo:World,wo=wr:=⟨_,rfl⟩
   go_wp2
   go_loopw [6,23] (λv i wr=>CkIn l qs q wo.heap.size most w v i wr) (λ_ i _=>q.length-(intOf i).toNat)
   case atStart=>exact hN.out
   case round=>
    obtain⟨j,hj,rfl,u,a,z,m⟩:=hrel;obtain⟨Ai,ci,rfl,_⟩:=u.form
    have hw:wo.heap.size<wr.heap.size:=by
     rw[QI]at m;exact m.1
    have hD:=z.size
    by_cases J:j<q.length
    ·have dj:decide ((j:Int)<(q.length:Int))=true:=by simp;omega
     have i9:IntKind.i64.wrap ((j:Int)+1)=(j:Int)+1:=Qz _ (by omega)
     have y0:wr.cell? ⟨wo.heap.size,j,none⟩=some (.string q[j]):=by
      rw[Qo wr _ j _ _ _ m];simp[J]
     have hS:=hf.out q[j] (QC J);have HX:=hIx (h9.out j J (by omega));have S:=hIx (zvl qs j (by omega));have U:=zzb qs (j+1);rw[<-HX.out]at S;generalize q[j]=p at *;have hA:p.data.toList.length=p.size:=by simp
     have hH:=zhN p.data.toList;have h7:Hid (∀W,Calls prog 78 #[.string p] W λe w'=>e=jC (.string (bs (zaI p.data.toList)))/\w'=W):=λW=>zdG p W (by unfold maxLen;omega)
     have L:Hid (ckX p.data.toList=if (zaI p.data.toList).isEmpty then []else [ckP (zaI p.data.toList)]):=rfl;have ho:(zaI p.data.toList).length<=4194304:=by omega
     have t:(bs (zaI p.data.toList)).data.toList=zaI p.data.toList:=zam _;generalize zaI p.data.toList=K at *;generalize hQ:bs K=Q at *;have hP:Q.size<=4194304:=by rw[<-hQ,zah];exact ho
     have hu:(l++(qs.take j).flatMap ckX).length<=4194304:=by have:=a.out;omega
     have N:Hid (K.isEmpty=false->most<=((l++(qs.take j).flatMap ckX).length:Int)->most.toNat<(zci d).length):=λB hF=>Y.out (by
      rw[Qb]at hF ⊢;rw[S.out,L.out,Qf (by rw[B];decide),Qb,QH]at U;omega)
     generalize h0:l++(qs.take j).flatMap ckX=f at *;have I:Hid (l++(qs.take (j+1)).flatMap ckX=f++ckX p.data.toList):=by unfold Hid;rw[S.out,<-h0,Q4]
     have y:=hIx u;have o:=hIx z;have G:=hIx m;clear u z m U hA hH hQ h0 S HX;cases B:K.isEmpty with
     |true=>
      have qx:Q.toList.isEmpty=true:=by rw[QU,t];exact B
      have hK:(Q.toList==[])=true:=by rw[QU,t];cases K with|nil=>rfl|cons _ _=>cases B
      have x:Hid (l++(qs.take (j+1)).flatMap ckX=f):=by unfold Hid;rw[I.out,L.out,Qj B,QO]
      clear B N t;go_wp2_with fail;refine(h7.out wr).mono ?_;rintro e w4 ⟨rfl,r⟩;rw[r];clear r;go_wp2;exact⟨⟨j+1,by omega,rfl,by rw[x.out];exact y.out,by rw[x.out];exact a,o.out,G.out⟩,by dsimp only[intOf];omega⟩
     |false=>
      have qx:Q.toList.isEmpty=false:=by rw[QU,t];exact B
      have hK:(Q.toList==[])=false:=by rw[QU,t];cases K with|nil=>cases B|cons _ _=>rfl
      by_cases g:most<=(f.length:Int)
      ·have d2:decide (most<=(f.length:Int))=true:=Qx g
       have HP:Hid (zfJ most d w (jC (.tuple #[jD 0 0,jA 2])) wr):=.inr ⟨N.out B g,rfl,o.out⟩;clear B g N t;go_wp2_with fail;refine(h7.out wr).mono ?_;rintro e w4 ⟨rfl,r⟩;rw[r];clear r;go_wp2;exact zad HP.out
      ·have d2:decide (most<=(f.length:Int))=false:=Qt g
       have hx:Hid (f.length+1<=most.toNat):=by unfold Hid;omega
       have x:Hid (l++(qs.take (j+1)).flatMap ckX=f++[ckP K]):=by unfold Hid;rw[I.out,L.out,Qf (by rw[B];decide)]
       obtain⟨m0,C⟩:=hd.out wr o.out;have hcut:=strings_Cut Q ⟨#[61]⟩ m0 wr (by omega) C;rw[t]at hcut;have h8:ckP K=(bs (Lib.cut K [61]).1,bs (Lib.cut K [61]).2.1):=rfl;have hn:(⟨#[61]⟩:ByteArray).data.toList=[61]:=rfl;rw[hn]at hcut;rw[h8]at x;generalize Lib.cut K [61]=CT at *;have hL:=hIx hcut;clear B g N t hcut C h8 hn L I;go_wp2_with fail;refine(h7.out wr).mono ?_;rintro e w4 ⟨rfl,r⟩;rw[r];clear r;go_wp2_with fail;refine hL.out.mono ?_;rintro e w5 ⟨rfl,nq,rfl⟩;have hq:OwnA (wr.drewN nq) w.heap.size (.slice Ai f.length ci) f:=y.out;have hy:w.heap.size<=(wr.drewN nq).heap.size:=hD;have Z:(Value.slice Ai f.length ci).ownBlock≠some wo.heap.size:=zbl y.out G.out (by decide);have hi:=hIx Z;clear Z;go_wp2_with (at_builtin;refine za2 rfl (.tmp 41) (.tmp 45) rfl w.heap.size (.slice Ai f.length ci) f rfl (by exact hq) (by exact hy) _ (bs CT.1,bs CT.2.1) rfl (wr.drewN nq).heap.size rfl 1 rfl (by exact hu) ?_;intro v5 w6 hJ hC hz hR);exact⟨⟨j+1,by omega,rfl,by rw[x.out];exact hJ,by rw[x.out,Qb];exact hx.out,o.out.trans (zfs hC),(hz _ hw hi.out).trans G.out⟩,by dsimp only[intOf];omega⟩
    ·obtain rfl:j=q.length:=by omega
     have dj:decide ((q.length:Int)<(q.length:Int))=false:=by simp
     have e1:qs.take q.length=qs:=by rw[<-hE,Q0]
     rw[e1]at u a;have HN:Hid (zq9 d most w (.slice Ai (l++qs.flatMap ckX).length ci) (jA ((k:Int)+1)) wr):=⟨k+1,by omega,rfl,by rw[O.out];exact u,by rw[O.out];exact a,z⟩
     rw[e1];clear u a z m e1 O V Y h9 hf;go_wp2;exact⟨HN.out,by dsimp only[intOf];omega⟩
  ·obtain rfl:k=d.length:=by omega
   have hr:decide ((d.length:Int)<(d.length:Int))=false:=by simp
   rw[Q0]at u a ⊢;have HP:Hid (zfJ most d w (jC (.tuple #[.slice Ao (zci d).length co,jA 0])) wr):=.inl ⟨a.out,_,rfl,u,z⟩;clear u a z hh;generalize zci d=CV at *;go_wp2_with fail;refine QD (v:=.tuple #[.slice Ao CV.length co,jA 0]) (by simp[results,results157,go_sem]) rfl HP.out
def zrp(a:ByteArray)(f:ByteArray × ByteArray):Bool:=zaB f.1.data.toList==zaB a.data.toList
def getL(b:List (ByteArray × ByteArray))(a:ByteArray):List ByteArray:=(b.filter (zrp a)).map (·.2)
theorem zud(b:List (ByteArray × ByteArray))(a:ByteArray)(k:Nat)(h:k<b.length):getL (b.take (k+1)) a=getL (b.take k) a++if zrp a b[k]=true then [b[k].2]else []:=by
 unfold getL;rw[Qu h,ZR,Q2]
 by_cases c:zrp a b[k]=true <;> simp[c]
theorem zoW(b:List (ByteArray × ByteArray))(a:ByteArray)(k:Nat):(getL (b.take k) a).length<=k:=by
 unfold getL;rw[Qk];exact Ql (Zh _ _) (ZN _ _)
theorem zfz(b:List (ByteArray × ByteArray))(a:ByteArray):(getL b a).length<=b.length:=by
 have:=zoW b a b.length;rw[Q0]at this;exact this
theorem zjC{b:List (ByteArray × ByteArray)}{a:ByteArray}(h:∀f∈b,f.2.size<=maxLen):∀x∈getL b a,x.size<=maxLen:=λx d=>by
 obtain⟨f,c,rfl⟩:=QS.1 d;exact h f (Xg.1 c).1
def zzp(w:World)(b:List (ByteArray × ByteArray))(a:ByteArray)(v i:Value)(wr:World):Prop:=
 ∃k:Nat,k<=b.length/\i=jA k/\OwnS wr w.heap.size v (getL (b.take k) a)/\w wr
def zgr(l:List ByteArray)(w:World)(e:Ending)(w':World):Prop:=∃v,e=jC v/\OwnS w' w.heap.size v l/\w w'
theorem zhI(m t:ByteArray)(A:Option Addr)(n c:Nat)(d:List (ByteArray × ByteArray))(a:ByteArray)(w:World)(H:n=d.length)(B:Sl w w.heap.size 2 A n (zeV d))
 (y:∀f∈d,f.1.size<=maxLen) (q:a.size<=maxLen) (hl:d.length<=4398046511104):
 Calls prog 115 #[.agg #[.string m,.string t,.slice A n c],.string a] w (zgr (getL d a) w):=by
 subst H
 go_in
 go_wp2
 go_loopw [5,11] (λv i wr=>zzp w d a v i wr) (λ_ i _=>d.length-(intOf i).toNat)
 case atStart=>exact⟨0,Qn _,rfl,OwnS.nil _ _,WaL⟩
 case round=>
  obtain⟨k,N,rfl,g,hb⟩:=hrel
  by_cases l:k<d.length
  ·obtain⟨b,F,rfl,I,K,G⟩:=(B.below hb).field l
   have O:=hIx y;have E:=y _ (QC l);clear y B;go_wp2_with fail;refine(zbg _ _ E).mono ?_;rintro e L ⟨rfl,s⟩;go_wp2_with fail;refine(zbg _ _ q).mono ?_;rintro e w2 ⟨rfl,u⟩;have j:=s.trans (u.mono s.size);have P:=zar j 1;have h:=g.later j;have r:=hb.trans (zaN j hb.size);have D:=r.size;have z:=hIx (zud d a k l);have J:=zoW d a k;clear g s u j;go_wp2_with (at_builtin;refine zbw rfl _ _ rfl w.heap.size _ (getL (d.take k) a) rfl (by exact h) (by exact D) [.string d[k].2] [d[k].2] rfl 1 1 rfl rfl (by omega) ?_;intro v' w3 o x _ C)
   ·have h1:zrp a d[k]=true:=by assumption
    go_roundw
    case rel=>exact⟨k+1,by omega,by go_num,by rw[z.out,Qj h1];exact o,r.trans x⟩
    case measure=>simp[intOf] <;> omega
   ·have h1:zrp a d[k]=false:=by assumption
    go_roundw
    case rel=>exact⟨k+1,by omega,by go_num,by rw[z.out,h1];simpa using h,r⟩
    case measure=>simp[intOf] <;> omega
  ·obtain rfl:k=d.length:=by omega
   go_wp2;go_ret;exact⟨_,rfl,by rw[Q0]at g;exact g,hb⟩
theorem zwT(s:ByteArray)(i:Nat)(h:i<s.size):s.get! i=s[i]:=by
 simp[ByteArray.get!, getElem!_pos,h]
 rfl
theorem zzm(s:ByteArray)(i:Nat)(h:i<s.size)(hb:128<=(s[i]'h).toNat):∃c n,Utf8.decode s i=(c,n)/\128<=c/\c<=1114111/\Utf8.valid c=true/\1<=n/\i+n<=s.size/\∀k,k<n->∀d:i+k<s.size,128<=(s[i+k]'d).toNat:=by
 have q:s.get! (i+0)=s[i]:=zwT s i h
 have e:∀k,k<1->∀d:i+k<s.size,128<=(s[i+k]'d).toNat:=λk d b=>by
  obtain rfl:k=0:=by omega
  exact hb
 have a:∀k,((decide (i+k<s.size))&&((s.get! (i+k)).toNat / 64==2))=true->i+k<s.size/\(s.get! (i+k)).toNat / 64=2/\∀d:i+k<s.size,128<=(s[i+k]'d).toNat:=λk d=>by
  simp only[Q3,QX,Zn]at d;refine⟨d.1,d.2,λb=>?_⟩;have:=d.2;rw[zwT s (i+k) b]at this;omega
 unfold Utf8.decode;simp only[q];rw[Qf (by omega)]
 split
 ·rename_i h1
  rw[Q3]at h1;obtain⟨o,m,g⟩:=a 1 h1.2;have r:=(s.get! (i+1)).toNat_lt
  split
  ·rename_i f
   refine⟨_,_,rfl,f,by omega,?_,by omega,by omega,λk d b=>?_⟩
   ·unfold Utf8.valid
    simp only[Xh,Q3,QX]
    left
    have:(s[i]).toNat<256:=(s[i]).toNat_lt;omega
   ·rcases(by omega:k=0\/k=1)with rfl|rfl
    ·exact hb
    ·exact g b
  ·exact⟨_,_,rfl,by decide,by decide,by decide,by omega,by omega,e⟩
 ·split
  ·rename_i h1
   rw[Q3,Q3]at h1;obtain⟨o,m,g⟩:=a 1 h1.1.2;obtain⟨u,v,j⟩:=a 2 h1.2
   split
   ·rename_i f
    rw[Q3]at f;have l:2048<=_:=Zp f.1;refine⟨_,_,rfl,by omega,?_,f.2,by omega,by omega,λk d b=>?_⟩
    ·have:=f.2
     unfold Utf8.valid at this;simp only[Xh,Q3,QX]at this;omega
    ·rcases(by omega:k=0\/k=1\/k=2)with rfl|rfl|rfl
     ·exact hb
     ·exact g b
     ·exact j b
   ·exact⟨_,_,rfl,by decide,by decide,by decide,by omega,by omega,e⟩
  ·split
   ·rename_i h1
    rw[Q3,Q3,Q3]at h1;obtain⟨o,m,g⟩:=a 1 h1.1.1.2;obtain⟨u,v,j⟩:=a 2 h1.1.2;obtain⟨x,w,t⟩:=a 3 h1.2
    split
    ·rename_i f
     rw[Q3]at f;have l:65536<=_:=Zp f.1;refine⟨_,_,rfl,by omega,?_,f.2,by omega,by omega,λk d b=>?_⟩
     ·have:=f.2
      unfold Utf8.valid at this;simp only[Xh,Q3,QX]at this;omega
     ·rcases(by omega:k=0\/k=1\/k=2\/k=3)with rfl|rfl|rfl|rfl
      ·exact hb
      ·exact g b
      ·exact j b
      ·exact t b
    ·exact⟨_,_,rfl,by decide,by decide,by decide,by omega,by omega,e⟩
   ·exact⟨_,_,rfl,by decide,by decide,by decide,by omega,by omega,e⟩
theorem zyR(r:Int)(h:128<=r):(∃a b:UInt8,Utf8.encode r=ByteArray.mk #[a,b]/\128<=b.toNat)\/(∃a b c:UInt8,Utf8.encode r=ByteArray.mk #[a,b,c]/\128<=c.toNat)\/(∃a b c d:UInt8,Utf8.encode r=ByteArray.mk #[a,b,c,d]/\128<=d.toNat):=by
 have hb:∀n:Nat,128<=(UInt8.ofNat (0x80+n % 64)).toNat:=λn=>by simp;omega
 unfold Utf8.encode;generalize f:(if Utf8.valid r then r.toNat else Utf8.runeError)=c
 have e:128<=c:=by
  rw[<-f]
  split
  ·omega
  ·decide
 dsimp only;rw[Qf (by omega)]
 split
 ·exact .inl ⟨_,_,rfl,hb _⟩
 ·split
  ·exact .inr (.inl ⟨_,_,_,rfl,hb _⟩)
  ·exact .inr (.inr ⟨_,_,_,_,rfl,hb _⟩)
section
variable {P:Program}
def zdC(W:World)(g:Nat)(s:ByteArray)(p:Nat):World:={W with heap:=W.heap.setIfInBounds g (.stringIter s p)}
theorem zir(W:World)(g:Nat)(s:ByteArray)(pos:Nat)(b:TypeId)(d:W.heap[g]? = some (.stringIter s pos))(h:pos<s.size)(c n:Nat)(a:Utf8.decode s pos=(c,n)):
 (Instr.next (.pointer g) true b).run P W=.ok (.tuple #[.bool true,jA pos,.int .i32 c]) (zdC W g s (pos+n)):=by
 simp only[Instr.next,getObj,setObj,Xj,Sem.run,d,Result.andThen,h,if_true,a];simp[goInt,zdC]
theorem zlb(W:World)(g:Nat)(s:ByteArray)(pos:Nat)(a:TypeId)(b:W.heap[g]? = some (.stringIter s pos))(h:¬pos<s.size):
 (Instr.next (.pointer g) true a).run P W=.ok (.tuple #[.bool false]) W:=by
 simp[Instr.next,getObj,Sem.run,b,h]
theorem zjY{W:World}{g:Nat}{s:ByteArray}{p:Nat}{o:Obj}(b:W.heap[g]? = some o):(zdC W g s p).heap[g]? = some (.stringIter s p):=by
 have a:g<W.heap.size:=by rw[QI]at b;exact b.1
 simp[zdC,a]
theorem zfP{B:Nat}{w W:World}{g:Nat}{s:ByteArray}{p:Nat}(h:Below B w W)(b:B<=g):Below B w (zdC W g s p):=
 ⟨h.os,h.tape,h.output,by simpa[zdC]using h.size,λi a=>by
  rw[<-h.block i a];simp only[zdC];rw[Xi (by omega)]⟩
theorem zg5(w:World)(src dst:TypeId)(r:Int)(b:P.underlying src=some (.int .i32))(a:P.underlying dst=some .string):
 (convert src dst (.int .i32 r)).run P w=.ok (.string (Utf8.encode r)) w:=by
 simp[convert,ZK b,ZK a,Conv.intToString]
end
theorem ztL(x:UInt8)(h:128<=x.toNat)(l:jE)(hl:∀y∈l,y.toNat<128):Lib.indexByte l x=-1:=by
 have:∀l:jE,(∀y∈l,y.toNat<128)->Lib.indexByte l x=-1:=by
  intro l
  induction l with
  |nil=>intro _;rfl
  |cons y l ih=>
   intro hl;unfold Lib.indexByte;have h1:=hl y (by simp);rw[Qf (by intro e;have:=Zn.1 e;subst this;omega),ih (λz a=>hl z (by simp[a]))]
   rfl
 exact this l hl
theorem zkX(w:World):Calls prog 251 #[.string (.mk #[34,13,10]),.int .i32 65533] w λe w'=>e=jC (jA (-1))/\w w':=by
 have c:Hid (∀i,w (w.iter (ByteArray.mk #[34,13,10]) i)):=λi=>WaL
 go_in
 go_wp2_with fail
 go_loopg [5,6] 3 (λg _ _ wx=>∃i:Nat,i+g=3/\wx=w.iter (ByteArray.mk #[34,13,10]) i)
 case atStart=>exact⟨0,rfl,rfl⟩
 case round=>
  obtain⟨i,d,rfl⟩:=hrel;cases gk with
  |zero=>
   obtain rfl:i=3:=by omega
   have a:=run_next_end (P:=prog) w (ByteArray.mk #[34,13,10]) 3 (h:=by decide);go_wp2;go_ret;exact⟨rfl,c.out _⟩
  |succ g=>
   rcases(by omega:i=0\/i=1\/i=2)with rfl|rfl|rfl
   ·have a:=λb=>run_next_ascii (P:=prog) w (ByteArray.mk #[34,13,10]) 0 b (by decide) (by decide)
    go_wp2_with fail
    go_roundg g
    case measure=>omega
    case rel=>exact⟨1,by omega,rfl⟩
   ·have a:=λb=>run_next_ascii (P:=prog) w (ByteArray.mk #[34,13,10]) 1 b (by decide) (by decide)
    go_wp2_with fail
    go_roundg g
    case measure=>omega
    case rel=>exact⟨2,by omega,rfl⟩
   ·have a:=λb=>run_next_ascii (P:=prog) w (ByteArray.mk #[34,13,10]) 2 b (by decide) (by decide)
    go_wp2_with fail
    go_roundg g
    case measure=>omega
    case rel=>exact⟨3,by omega,rfl⟩
theorem zrb(r:Int)(h:Utf8.valid r=true):Lib.validRune r=true:=by
 unfold Utf8.valid at h;unfold Lib.validRune;simp only[Xh,Q3,QX]at h ⊢;omega
theorem zmu(r:Int)(w:World)(h:128<=r)(h2:r<=1114111)(s:Utf8.valid r=true):Calls prog 251 #[.string (.mk #[34,13,10]),.int .i32 r] w λe w'=>e=jC (jA (-1))/\w w':=by
 by_cases q:r=65533
 ·subst q;exact zkX w
 ·have A:(r==65533)=false:=Qc.2 q
  have C:decide (r<128)=false:=Qt (by omega);have B:decide ((0:Int)<=r)=true:=Qx (by omega)
  have k:Hid (∀W,Calls prog 275 #[.int .i32 r] W λe w'=>e=jC (.bool true)/\w'=W):=λW=>by
   have:=utf8_ValidRune r W;rw[zrb r s]at this;exact this
  have u:Hid (∀W n,Below W.heap.size W (W.drewN n)):=λW n=>below_drewN (Qi _ _) n
  have l:=λW=>zg5 (P:=prog) W 21 9 r underlying21 underlying9
  rcases zyR r h with ⟨a,b,j,hb⟩|⟨a,b,c,j,hb⟩|⟨a,b,c,d,j,hb⟩
  ·rw[j]at l
   have w2:IntKind.i64.wrap 2=2:=by decide
   have w3:IntKind.i64.wrap 3=3:=by decide
   have y:((13:Int) != (b.toNat:Int))=true:=Q6.2 (by omega);have f:Lib.indexByte [10] b=-1:=ztL b hb _ (by decide);have v:(ByteArray.mk #[34,13,10]).extract 2 3=ByteArray.mk #[10]:=by rfl
   have z:(ByteArray.mk #[a,b])[1]'(by show 1<2;decide)=b:=by rfl
   have x:(ByteArray.mk #[34,13,10])[1]'(by decide)=13:=by rfl
   have t:Hid (∀W,Calls prog 111 #[.string (.mk #[10]),.int .u8 b.toNat] W λe w'=>e=jC (jA (-1))/\w'=W):=λW=>by
    have:=zaY (ByteArray.mk #[10]) b W;rw[show Lib.indexByte (ByteArray.mk #[10]).data.toList b=-1 from f]at this;exact this
   clear h h2 s j f hb q
   go_in
   go_wp2_with (go_at_call 275;refine(k.out _).mono ?_;rintro e w' ⟨rfl,rfl⟩)
   go_step3
   go_wp2
   go_loopw [9] (λm wr=>m=jA 1/\wr=w') (λ_ _=>0)
   case atStart=>exact⟨rfl,rfl⟩
   case round=>
    obtain⟨rfl,rfl⟩:=hrel;go_wp2_with fail
    try go_step3
    go_wp2_with fail
    go_quiet (fail)
    have i:=hIx (u.out wr nq);obtain⟨o,g⟩:∃o,wr.drewN nq=o:=⟨_,rfl⟩
    rw[g]at i ⊢;clear g;go_wp2_with fail
    go_quiet ((go_at_call 111;exact Za (t.out _)))
    go_wp2_with fail;simp (config:={zetaDelta:=true}) only[Exit.noGoto_ret,Exit.inBlock,Exit.then];go_ret;exact⟨rfl,below_drewN i.out nq⟩
  ·rw[j]at l
   have w2:IntKind.i64.wrap 2=2:=by decide
   have w3:IntKind.i64.wrap 3=3:=by decide
   have y:((10:Int) != (c.toNat:Int))=true:=Q6.2 (by omega);have f:Lib.indexByte [] c=-1:=ztL c hb _ (by decide);have v:(ByteArray.mk #[34,13,10]).extract 3 3=ByteArray.mk #[]:=by rfl
   have z:(ByteArray.mk #[a,b,c])[2]'(by show 2<3;decide)=c:=by rfl
   have x:(ByteArray.mk #[34,13,10])[2]'(by decide)=10:=by rfl
   have t:Hid (∀W,Calls prog 111 #[.string (.mk #[]),.int .u8 c.toNat] W λe w'=>e=jC (jA (-1))/\w'=W):=λW=>by
    have:=zaY (ByteArray.mk #[]) c W;rw[show Lib.indexByte (ByteArray.mk #[]).data.toList c=-1 from f]at this;exact this
   clear h h2 s j f hb q
   go_in
   go_wp2_with (go_at_call 275;refine(k.out _).mono ?_;rintro e w' ⟨rfl,rfl⟩)
   go_step3
   go_wp2
   go_loopw [9] (λm wr=>m=jA 2/\wr=w') (λ_ _=>0)
   case atStart=>exact⟨rfl,rfl⟩
   case round=>
    obtain⟨rfl,rfl⟩:=hrel;go_wp2_with fail
    try go_step3
    go_wp2_with fail
    go_quiet (fail)
    have i:=hIx (u.out wr nq);obtain⟨o,g⟩:∃o,wr.drewN nq=o:=⟨_,rfl⟩
    rw[g]at i ⊢;clear g;go_wp2_with fail
    go_quiet ((go_at_call 111;exact Za (t.out _)))
    go_wp2_with fail;simp (config:={zetaDelta:=true}) only[Exit.noGoto_ret,Exit.inBlock,Exit.then];go_ret;exact⟨rfl,below_drewN i.out nq⟩
  ·rw[j]at l
   clear h h2 s j hb q
   go_in
   go_wp2_with (go_at_call 275;refine(k.out _).mono ?_;rintro e w' ⟨rfl,rfl⟩)
   go_step3
   go_wp2
   go_loopw [9] (λm wr=>m=jA 3/\wr=w') (λ_ _=>0)
   case atStart=>exact⟨rfl,rfl⟩
   case round=>
    obtain⟨rfl,rfl⟩:=hrel;go_wp2_with fail;simp (config:={zetaDelta:=true}) only[Exit.noGoto_ret,Exit.inBlock];go_ret;exact⟨rfl,u.out _ 0⟩
theorem zqr(x:UInt8):(Lib.indexByte [34,13,10] ((x.toNat:Int)).toNat.toUInt8>=0)=(zef.contains x=true):=by
 have e:((x.toNat:Int)).toNat.toUInt8=x:=by simp
 rw[e,propext_iff];have:=Lib.contains_iff_indexByte zef x;unfold zef at this ⊢;rw[this,decide_eq_true_iff]
theorem zp8{s a:jE}{i n:Nat}(h:Lib.NoAny s a i)(c:∀k,k<n->∀b,s[i+k]? = some b->a.contains b=false):Lib.NoAny s a (i+n):=λj b d hb=>by
 rcases ZJ j i with h1|h1
 ·exact h j b h1 hb
 ·exact c (j-i) (by omega) b (by rw[show i+(j-i)=j by omega];exact hb)
theorem zyM(x:UInt8)(h:128<=x.toNat):zef.contains x=false:=by
 have:=zeg (p:=λx=>decide (x.toNat<128)||!zef.contains x) (by decide+kernel) x;simp only[Xh,QX,Bool.not_eq_true']at this
 rcases this with h1|h1
 ·omega
 ·exact h1
theorem zh4(s:ByteArray)(w:World)(h8:s.size<=8):
 Calls prog 229 #[.string s,.string (.mk #[34,13,10])] w λe w'=>e=jC (jA (Lib.indexAny s.data.toList zef))/\w w':=by
 have d8:decide ((8:Int)<(s.size:Int))=false:=Qt (by omega)
 have HU:Hid (∀W,Calls prog 252 #[jA (s.size:Int)] W λe w'=>e=jC (.bool false)/\w'=W):=λW=>by
  have:=strings_shouldUseASCIISet (s.size:Int) W;rw[d8]at this;exact this
 have q:=World.iter_heap w s 0;have G:w (w.iter s 0):=WaL;have U:=hIx q;have O:=hIx G;clear q G
 go_in
 go_wp2_with (go_at_call 252;refine(HU.out _).mono ?_;rintro e w' ⟨rfl,F⟩;rw[F])
 go_loopg [9,10] s.size (λg _ _ wx=>∃i:Nat,i<=s.size/\s.size-i<=g/\wx.heap[w.heap.size]? = some (.stringIter s i)/\w wx/\Lib.NoAny s.data.toList zef i)
 case atStart=>exact⟨0,Qn _,Qd _,U.out,O.out,Lib.NoAny.zero _ _⟩
 case round=>
  obtain⟨i,hi,h3,hit,hb,A⟩:=hrel;have N:=hIx A;clear A
  by_cases d:i<s.size
  ·obtain⟨g,rfl⟩:∃g,gk=g+1:=⟨gk-1,by omega⟩
   obtain⟨x,y⟩:∃x:UInt8,s[i]'d=x:=⟨_,rfl⟩
   have t:s.data.toList[i]? = some x:=by rw[<-y];exact Xt s i d
   by_cases E:x.toNat<128
   ·have v:=decode_ascii s i d (by rw[y];exact E)
    rw[y]at v;have H:=λK=>zir (P:=prog) wr w.heap.size s i K hit d _ _ v
    have a:=zjY (s:=s) (p:=i+1) hit;have j:=zfP (s:=s) (p:=i+1) hb (Qd _);have HX:=hIx t;have u:=hIx a;have f:=hIx j;have T:=λW=>strings_IndexRune_ascii (ByteArray.mk #[34,13,10]) (x.toNat:Int) W (by omega) (by omega)
    have B:=zqr x;have Y:(ByteArray.mk #[34,13,10]).data.toList=[34,13,10]:=rfl;rw[Y]at T;generalize Lib.indexByte [34,13,10] ((x.toNat:Int)).toNat.toUInt8=J at *;have m:=hIx T;clear v hit hb a j t y T Y
    by_cases z:zef.contains x=true
    ·have hJ:(0:Int)<=J:=by rw[z]at B;simpa using B
     have Q:=hIx z;clear B z;go_wp2_with (go_at_call 251;refine(m.out _).mono ?_;rintro e w9 ⟨rfl,F⟩;rw[F]);go_ret;exact⟨by rw[Lib.indexAny_hit N.out HX.out Q.out];rfl,f.out⟩
    ·have l:zef.contains x=false:=by simpa using z
     have hJ:J<0:=by
      rcases Int.lt_or_le J 0 with h|h
      ·exact h
      ·exfalso;apply z;rw[<-B];exact h
     have Q:=hIx l;clear B z l;go_wp2_with (go_at_call 251;refine(m.out _).mono ?_;rintro e w9 ⟨rfl,F⟩;rw[F])
     go_roundg g
     case measure=>omega
     case rel=>exact⟨i+1,by omega,by omega,u.out,f.out,N.out.succ HX.out Q.out⟩
   ·obtain⟨c,n,v,S,l,Z,h0,V,r⟩:=zzm s i d (by rw[y];omega)
    have H:=λK=>zir (P:=prog) wr w.heap.size s i K hit d _ _ v
    have a:=zjY (s:=s) (p:=i+n) hit;have j:=zfP (s:=s) (p:=i+n) hb (Qd _)
    have o:Lib.NoAny s.data.toList zef (i+n):=zp8 N.out λk hk b I=>by
     have L:i+k<s.size:=by omega
     rw[Xt s (i+k) L]at I;rw[<-QG I];exact zyM _ (r k hk L)
    have u:=hIx a;have f:=hIx j;have X:=hIx o;have hz:=j.size
    have C:w.heap.size<(zdC wr w.heap.size s (i+n)).heap.size:=by
     rw[QI]at a;exact a.1
    have m:=hIx (zmu (c:Int) (zdC wr w.heap.size s (i+n)) (by omega) (by omega) Z);clear v hit hb a j o r Z y t S l;go_wp2_with (go_at_call 251;refine m.out.mono ?_;rintro e w9 ⟨rfl,D⟩)
    go_roundg g
    case measure=>omega
    case rel=>exact⟨i+n,V,by omega,(D.block _ C).trans u.out,f.out.trans (D.mono hz),X.out⟩
  ·obtain rfl:i=s.size:=by omega
   have H:=λK=>zlb (P:=prog) wr w.heap.size s s.size K hit d
   have f:=hIx hb;clear hb;go_wp2;go_ret;exact⟨by rw[Lib.indexAny_none (by rw[<-Lib.size_eq];exact N.out)];rfl,f.out⟩
theorem zxa:(prog.info? 327).map (λi=>(i.zero,i.size))=some (some (.agg (Array.replicate 256 (.bool false))),256):=by kernel_rfl
theorem zyb:∀w,(zeroValue 327).run prog w=.ok (.agg (Array.replicate 256 (.bool false))) w:=(zero_of_info zxa).1
theorem zgY(s:ByteArray)(w:World)(d:s.size<4294967281):
 Calls prog 217 #[.string s,.string (.mk #[34,13,10])] w λe w'=>e=jC (.bool (Lib.containsAny s.data.toList zef))/\w w':=by
 have a:Calls prog 229 #[.string s,.string (.mk #[34,13,10])] w λe w'=>e=jC (jA (Lib.indexAny s.data.toList zef))/\w w':=by
  rcases ZJ 8 s.size with h|h
  ·refine(strings_IndexAny_long zyb s (ByteArray.mk #[34,13,10]) w (by decide) h d (by decide) (λj b hb=>?_)).mono λe w' ⟨h1,h2⟩=>⟨h1,?_⟩
   ·have:b∈([34,13,10]:jE):=Z6 hb
    simp only[QN,Zz,XA]at this
    rcases this with rfl|rfl|rfl <;> decide
   ·rw[h2]
    exact WaL.alloc (by simp) _
  ·exact zh4 s w h
 have c:=hIx a;unfold Lib.containsAny;clear a
 go_in
 go_wp2_with fail;refine c.out.mono ?_;rintro e w' ⟨rfl,hb⟩;go_wp2;go_ret;exact⟨rfl,hb⟩
theorem zlt:∀(f g:Nat) (s:jE),s.length<f->s.length<g->zhQ f s=zhQ g s
 |0,_,_,h,_=>by omega
 |_,0,_,_,h=>by omega
 |f+1,g+1,s,h1,h2=>by
  unfold zhQ;cases a:(Lib.cut s nlL).2.2 with
  |false=>rfl
  |true=>
   have b:=zd9 a;have:nlL.length=2:=rfl;rw[zlt f g (Lib.cut s nlL).2.1 (by omega) (by omega)]
theorem ztl(s:jE):zgA s=if (Lib.cut s nlL).2.2=false then none else if (Lib.cut s nlL).1=[]then some (Lib.cut s nlL).2.1 else zgA (Lib.cut s nlL).2.1:=by
 have e:zgA s=if (Lib.cut s nlL).2.2=false then none else if (Lib.cut s nlL).1=[]then some (Lib.cut s nlL).2.1 else zhQ s.length (Lib.cut s nlL).2.1:=by
  unfold zgA;rw[zhQ]
 rw[e];cases a:(Lib.cut s nlL).2.2 with
 |false=>rfl
 |true=>
  have c:=zd9 a;have:nlL.length=2:=rfl;have b:zhQ s.length (Lib.cut s nlL).2.1=zgA (Lib.cut s nlL).2.1:=zlt _ _ _ (by omega) (by omega);rw[b]
theorem zlQ(s p:ByteArray)(W:World)(a:s.size<=9223372036854775807):
 Calls prog 110 #[.string s,.string p] W λe w'=>e=jC (.tuple #[.string (bs (Lib.trimSuffix s.data.toList p.data.toList)),.bool (Lib.hasSuffix s.data.toList p.data.toList)])/\w'=W:=strings_CutSuffix s p W a
theorem zd4(s p:ByteArray)(W:World):
 Calls prog 204 #[.string s,.string p] W λe w'=>e=jC (.tuple #[.string (bs (Lib.trimPrefix s.data.toList p.data.toList)),.bool (Lib.hasPrefix s.data.toList p.data.toList)])/\w'=W:=strings_CutPrefix s p W
def ArgAt(g:Nat)(a b:ByteArray)(w:World):Prop:=w.heap[g]? = some (.cells #[.string a,.string b] 279 (0,0))
theorem ArgAt.cells{g:Nat}{a b:ByteArray}{w:World}(h:ArgAt g a b w):w.cell? g=some (.string a)/\w.cell? ⟨g,1,none⟩=some (.string b):=⟨Qo w g 0 _ _ _ h,Qo w g 1 _ _ _ h⟩
theorem ArgAt.free{g:Nat}{a b:ByteArray}{w:World}(h:ArgAt g a b w)(j:Nat):w.frozen? ⟨g,j,none⟩=false:=by
 unfold ArgAt at h;simp[World.frozen?, h]
def zk5(s b:jE)(w:World)(e:Ending)(w':World):Prop:=
 ((
  zkL s b=none/\e=jC (.tuple #[.agg #[.string (.mk #[]),.string (.mk #[])],.string (.mk #[]),.bool false]))\/
  ∃n v r,zkL s b=some ((n,v),r)/\e=jC (.tuple #[.agg #[.string (bs n),.string (bs v)],.string (bs r),.bool true]))/\w w'
theorem znH(s p:jE):(Lib.trimSuffix s p).length<=s.length:=by
 unfold Lib.trimSuffix
 split
 ·exact List.length_take_le' _ _
 ·exact Qd _
def zxe(L:Nat)(b:Option jE)(a:World)(c:Value)(wr:World):Prop:=
 ∃r:jE,c=.string (bs r)/\r.length<=L/\zgA r=b/\a wr
def zjw:Value->Nat
 |.string s=>s.size
 |_=>0
theorem zvJ(s b:ByteArray)(w:World)(hs:s.size<=65536)(hb:b.size<=65536)(Q:LibOk w):
 Calls prog 205 #[.string s,.string b] w (zk5 s.data.toList b.data.toList w):=by
 obtain⟨A,G⟩:∃A,w.alloc (.cells #[.string (.mk #[]),.string (.mk #[])] 279)=A:=⟨_,rfl⟩
 have h9:w.heap.size<A.heap.size:=by rw[<-G];simp
 have hi:w A:=by rw[<-G];exact WaL
 have hg:ArgAt w.heap.size (ByteArray.mk #[]) (ByteArray.mk #[]) A:=by rw[<-G];exact Qv _ _
 have i:Hid (∀W,A W->ArgAt w.heap.size (ByteArray.mk #[]) (ByteArray.mk #[]) W/\w W/\LibOk W):=λW h=>by
  have h2:=hi.trans (h.mono (QZ h9));exact⟨(h.block _ h9).trans hg,h2,Q.below h2⟩
 obtain⟨c1,c2,c3,q⟩:∃x y z,Lib.cut s.data.toList (ByteArray.mk #[13,10]).data.toList=(x,y,z):=⟨_,_,_,rfl⟩
 have ho:s.data.toList.length=s.size:=by simp
 have T:=hIx (zhP s (ByteArray.mk #[13,10]) A (by omega) (i.out A (Qi _ _)).2.2 q);have en:(ByteArray.mk #[13,10]).data.toList=nlL:=rfl;rw[en]at q;obtain⟨U,S⟩:=zcP s.data.toList nlL;rw[q]at U S;dsimp only at U S
 have g:Hid (zkL s.data.toList b.data.toList=if (c3&&(za5 c1 zdZ).2&&Lib.hasSuffix (za5 c1 zdZ).1 [34]&&!Lib.containsAny (Lib.trimSuffix (za5 c1 zdZ).1 [34]) zef)=false then none
  else match zgA c2 with
  |none=>none
  |some r=>if (Lib.cut (nlL++r) (nlL++zbD b.data.toList)).2.2=false then none
   else some ((Lib.trimSuffix (za5 c1 zdZ).1 [34],Lib.trimPrefix (Lib.cut (nlL++r) (nlL++zbD b.data.toList)).1 nlL),(Lib.cut (nlL++r) (nlL++zbD b.data.toList)).2.1)):=by
  unfold Hid zkL zo1 zxN;rw[q]
  rfl
 have h6:∀W,Calls prog 202 #[.string (bs c1),.string (.mk #[99,111,110,116,101,110,116,45,100,105,115,112,111,115,105,116,105,111,110,58,32,102,111,114,109,45,100,97,116,97,59,32,110,97,109,101,61,34])] W λe w'=>e=jC (.tuple #[.string (bs (za5 c1 zdZ).1),.bool (za5 c1 zdZ).2])/\W w':=λW=>by
  have:=zmN (bs c1) (ByteArray.mk #[99,111,110,116,101,110,116,45,100,105,115,112,111,115,105,116,105,111,110,58,32,102,111,114,109,45,100,97,116,97,59,32,110,97,109,101,61,34]) W (by rw[zah];unfold maxLen;omega);have eb:(ByteArray.mk #[99,111,110,116,101,110,116,45,100,105,115,112,111,115,105,116,105,111,110,58,32,102,111,114,109,45,100,97,116,97,59,32,110,97,109,101,61,34]).data.toList=zdZ:=rfl;rw[zam,eb]at this;exact this
 have hd:=zmw c1 zdZ;generalize za5 c1 zdZ=F at *;obtain⟨fb,fo⟩:=F;dsimp only at g h6 hd
 have h7:∀W,Calls prog 110 #[.string (bs fb),.string (.mk #[34])] W λe w'=>e=jC (.tuple #[.string (bs (Lib.trimSuffix fb [34])),.bool (Lib.hasSuffix fb [34])])/\w'=W:=λW=>
  zlQ (bs fb) (ByteArray.mk #[34]) W (by rw[zah];omega)
 have hv:=znH fb [34];generalize Lib.trimSuffix fb [34]=J at *;generalize Lib.hasSuffix fb [34]=hx at *
 have hc:Hid (∀W,Calls prog 217 #[.string (bs J),.string (.mk #[34,13,10])] W λe w'=>e=jC (.bool (Lib.containsAny J zef))/\W w'):=λW=>by
  have:=zgY (bs J) W (by rw[zah];omega);rw[zam]at this;exact this
 generalize Lib.containsAny J zef=ca at *;have ha:=hIx h6;have D:=hIx h7;have hu:=hIx G
 have d:Hid (∀W,zkL s.data.toList b.data.toList=none->A W->zk5 s.data.toList b.data.toList w (jC (.tuple #[.agg #[.string (.mk #[]),.string (.mk #[])],.string (.mk #[]),.bool false])) ((W.setCell w.heap.size (.string (.mk #[]))).setCell ⟨w.heap.size,1,none⟩ (.string (.mk #[])))):=λW h1 h2=>
  ⟨.inl ⟨h1,rfl⟩,((i.out W h2).2.1.setCell (p:=⟨w.heap.size,0,none⟩) (Qd _) _).setCell (p:=⟨w.heap.size,1,none⟩) (Qd _) _⟩
 have hq:c2.length<=65536:=by omega
 generalize hn:zkL s.data.toList b.data.toList=PX at *;clear h6 h7 G q en hi hg Q U S ho hd hv
 go_in
 go_upto_region 1 with fail
 rw[hu.out];go_wp2_with (go_at_call 73;apply Hid.out);refine WhM T ?_;rintro e w1 ⟨rfl,hm⟩;have h3:=hIx hm;clear hm T;go_wp2_with (go_at_call 202;apply Hid.out);unfold Hid;refine(ha.out w1).mono ?_;rintro e w2 ⟨rfl,he⟩;have m:=hIx (h3.out.trans (he.mono h3.out.size));clear he h3 ha;have V:=(i.out w2 m.out).1;have ⟨E,H⟩:=V.cells;have f0:=V.free;have k:=hIx (za9 (.string (.mk #[])) (.string (.mk #[])) E H);clear V;cases c3 with
 |false=>
  have C:=hIx (d.out w2 (by rw[g.out];rfl) m.out);clear g d;go_wp2_with (go_at_call 110;apply Hid.out);unfold Hid;refine(D.out _).mono ?_;rintro e w9 ⟨rfl,rfl⟩;go_wp2;exact QD (v:=.tuple #[.agg #[.string (.mk #[]),.string (.mk #[])],.string (.mk #[]),.bool false]) (by have t:=k.out;simp[results,results205,go_sem,t.1,t.2]) rfl C.out
 |true=>
 cases fo with
 |false=>
  have C:=hIx (d.out w2 (by rw[g.out];rfl) m.out);clear g d;go_wp2_with (go_at_call 110;apply Hid.out);unfold Hid;refine(D.out _).mono ?_;rintro e w9 ⟨rfl,rfl⟩;go_wp2;exact QD (v:=.tuple #[.agg #[.string (.mk #[]),.string (.mk #[])],.string (.mk #[]),.bool false]) (by have t:=k.out;simp[results,results205,go_sem,t.1,t.2]) rfl C.out
 |true=>
 cases hx with
 |false=>
  have C:=hIx (d.out w2 (by rw[g.out];rfl) m.out);clear g d;go_wp2_with (go_at_call 110;apply Hid.out);unfold Hid;refine(D.out _).mono ?_;rintro e w9 ⟨rfl,rfl⟩;go_wp2;exact QD (v:=.tuple #[.agg #[.string (.mk #[]),.string (.mk #[])],.string (.mk #[]),.bool false]) (by have t:=k.out;simp[results,results205,go_sem,t.1,t.2]) rfl C.out
 |true=>
 go_wp2_with (go_at_call 110;apply Hid.out);unfold Hid;refine(D.out _).mono ?_;rintro e w9 ⟨rfl,rfl⟩;clear k E H f0;go_wp2_with (go_at_call 217;apply Hid.out);unfold Hid;refine(hc.out _).mono ?_;rintro e w3 ⟨rfl,hf⟩;have P:=hIx (m.out.trans (hf.mono m.out.size));clear hf m hc D;have Z:=(i.out w3 P.out).1;have ⟨E,H⟩:=Z.cells;have f0:=Z.free;have k:=hIx (za9 (.string (.mk #[])) (.string (.mk #[])) E H);clear Z;cases ca with
 |true=>
  have C:=hIx (d.out w3 (by rw[g.out];rfl) P.out);clear g d;go_wp2;exact QD (v:=.tuple #[.agg #[.string (.mk #[]),.string (.mk #[])],.string (.mk #[]),.bool false]) (by have t:=k.out;simp[results,results205,go_sem,t.1,t.2]) rfl C.out
 |false=>
 have N:Hid (zgA c2=none->PX=none):=λh=>by rw[g.out,h];rfl
 have O:Hid (∀r,zgA c2=some r->PX=if (Lib.cut (nlL++r) (nlL++zbD b.data.toList)).2.2=false then none
  else some ((J,Lib.trimPrefix (Lib.cut (nlL++r) (nlL++zbD b.data.toList)).1 nlL),(Lib.cut (nlL++r) (nlL++zbD b.data.toList)).2.1)):=λr h=>by rw[g.out,h];rfl
 clear g k E H f0;generalize h8:zgA c2=SK at *;have hw:Hid (zxe 65536 SK A (.string (bs c2)) w3):=⟨c2,rfl,hq,h8,P.out⟩
 clear h8 P;go_wp2
 go_loopw [8,9,13] (λv8 _ _ wr=>zxe 65536 SK A v8 wr) (λv8 _ _ _=>zjw v8)
 case atStart=>exact hw.out
 case round=>
  obtain⟨r,rfl,hr,K,hB⟩:=hrel;have HB:=hIx hB;obtain⟨a1,B,a3,q⟩:∃x y z,Lib.cut r nlL=(x,y,z):=⟨_,_,_,rfl⟩
  have I:=hIx (zhP (bs r) (ByteArray.mk #[13,10]) wr (by rw[zah];omega) (i.out wr hB).2.2 (a:=a1) (b:=B) (c:=a3) q);obtain⟨U,S⟩:=zcP r nlL;have f:=ztl r
  have j:a3=true->B.length+2<=r.length:=λh=>by
   have:=zd9 (s:=r) (p:=nlL) (by rw[q];exact h);rw[q]at this;exact this
  rw[q]at U S f;dsimp only at U S f;rw[K]at f;clear q hB;go_wp2_with (go_at_call 73;apply Hid.out);refine WhM I ?_;rintro e w4 ⟨rfl,hk⟩;have n:=hIx (HB.out.trans (hk.mono HB.out.size));clear hk HB I;have h4:=(i.out w4 n.out).1;have ⟨E,H⟩:=h4.cells;have f0:=h4.free;have k:=hIx (za9 (.string (.mk #[])) (.string (.mk #[])) E H);clear h4;cases a3 with
  |false=>
   have C:=hIx (d.out w4 (N.out (by rw[f];rfl)) n.out);clear N O d f K;go_wp2;exact QD (v:=.tuple #[.agg #[.string (.mk #[]),.string (.mk #[])],.string (.mk #[]),.bool false]) (by have t:=k.out;simp[results,results205,go_sem,t.1,t.2]) rfl C.out
  |true=>
  have hy:=j rfl
  by_cases L:a1=[]
  rotate_left
  ·have q1:a1.isEmpty=false:=by cases a1 with|nil=>exact absurd rfl L|cons x l=>rfl
   have ht:Hid (zxe 65536 SK A (.string (bs B)) w4):=⟨B,rfl,by omega,by rw[f,Qf (by decide),Qf L],n.out⟩
   have HL:Hid ((bs B).size<(bs r).size):=by unfold Hid;rw[zah,zah];omega
   clear N O d f K k L j U S;go_wp2;exact⟨ht.out,HL.out⟩
  ·subst L
   have X:=hIx (O.out B (by rw[f,Qf (by decide),Qj rfl]));have en:(ByteArray.mk #[13,10]++bs B).data.toList=nlL++B:=by simp[bs,nlL]
   have em:(ByteArray.mk #[13,10,45,45]++b).data.toList=nlL++zbD b.data.toList:=by simp[zbD,nlL]
   obtain⟨v,lf,o,q⟩:∃x y z,Lib.cut (nlL++B) (nlL++zbD b.data.toList)=(x,y,z):=⟨_,_,_,rfl⟩
   have hh:(ByteArray.mk #[13,10]++bs B).size=2+B.length:=by rw[Zi,zah];rfl
   have I:=hIx (zhP (ByteArray.mk #[13,10]++bs B) (ByteArray.mk #[13,10,45,45]++b) w4 (by rw[hh];omega) (i.out w4 n.out).2.2 (a:=v) (b:=lf) (c:=o) (by rw[en,em];exact q));have k1:(ByteArray.mk #[13,10]).size+(bs B).size<=9223372036854775807:=by rw[zah];show 2+B.length<=_;omega
   have k2:(ByteArray.mk #[13,10,45,45]).size+b.size<=9223372036854775807:=by show 4+b.size<=_;omega
   rw[q]at X;have u:=X;clear N O f K j U S k E H f0 X hh en em q;go_wp2_with (go_at_call 73;apply Hid.out);refine WhM I ?_;rintro e w5 ⟨rfl,hj⟩;have h5:=hIx (n.out.trans (hj.mono n.out.size));clear hj I n;have h0:=(i.out w5 h5.out).1;have ⟨E,H⟩:=h0.cells;have f0:=h0.free;clear h0;cases o with
   |false=>
    have k:=hIx (za9 (.string (.mk #[])) (.string (.mk #[])) E H);have C:=hIx (d.out w5 (by rw[u.out];rfl) h5.out);clear u d;go_wp2;exact QD (v:=.tuple #[.agg #[.string (.mk #[]),.string (.mk #[])],.string (.mk #[]),.bool false]) (by have t:=k.out;simp[results,results205,go_sem,t.1,t.2]) rfl C.out
   |true=>
    have Y:=zd4 (bs v) (ByteArray.mk #[13,10]) w5;have eb:(ByteArray.mk #[13,10]).data.toList=nlL:=rfl;rw[zam,eb]at Y
    have C:Hid (zk5 s.data.toList b.data.toList w (jC (.tuple #[.agg #[.string (bs J),.string (bs (Lib.trimPrefix v nlL))],.string (bs lf),.bool true])) ((w5.setCell w.heap.size (.string (bs J))).setCell ⟨w.heap.size,1,none⟩ (.string (bs (Lib.trimPrefix v nlL))))):=by
     refine⟨.inr ⟨J,Lib.trimPrefix v nlL,lf,?_,rfl⟩,((i.out w5 h5.out).2.1.setCell (p:=⟨w.heap.size,0,none⟩) (Qd _) _).setCell (p:=⟨w.heap.size,1,none⟩) (Qd _) _⟩;rw[hn,u.out]
     rfl
    have k:=hIx (za9 (.string (bs J)) (.string (bs (Lib.trimPrefix v nlL))) E H);have hp:=hIx Y;clear u Y eb d;generalize Lib.trimPrefix v nlL=tv at *;go_wp2_with (go_at_call 204;apply Hid.out);refine WhM hp ?_;rintro e w6 ⟨rfl,rfl⟩;go_wp2;exact QD (v:=.tuple #[.agg #[.string (bs J),.string (bs tv)],.string (bs lf),.bool true]) (by have t:=k.out;simp[results,results205,go_sem,t.1,t.2]) rfl C.out
