/- Lemmas for the last texts. -/
import Derived.Test.YtnnokglddolglaaGreatDoorM17
import Derived.Lib.IndexMore
import Derived.Lib.IndexAny
set_option maxHeartbeats 6400000
set_option maxRecDepth 100000
namespace Go.Proofs.YtnnokglddolglaaGreatDoor
open Go.RowKit Go.Proofs.Tryz
def bndB(b:UInt8):Bool:=letB b||decide (0<=Lib.indexByte [39,43,95,45,46] b)
def zbX(l:List UInt8):Bool:=l.all bndB&&(decide (1<=l.length)&&decide (l.length<=70))
def zd3:List UInt8:=[99,111,110,116,101,110,116,45,100,105,115,112,111,115,105,116,105,111,110,58,32,102,111,114,109,45,100,97,116,97,59,32,110,97,109,101,61,34]
def zen:List UInt8:=[34,13,10]
def nlL:List UInt8:=[13,10]
def zbJ(b:List UInt8):List UInt8:=45::45::b
def za7(s p:List UInt8):List UInt8 × Bool:=if s.length<p.length\/zav (s.take p.length)≠p then (s,false)else (s.drop p.length,true)
abbrev zhE:=List UInt8 × List UInt8
def badP(b:List UInt8)(a:zhE):Bool:=Lib.containsAny a.1 zen||Lib.contains (nlL++a.2) (nlL++zbJ b)
def zh1:Nat->List UInt8->Option (List UInt8)
 |0,_=>none
 |f+1,s=>if (Lib.cut s nlL).2.2=false then none else if (Lib.cut s nlL).1=[]then some (Lib.cut s nlL).2.1 else zh1 f (Lib.cut s nlL).2.1
def zgJ(s:List UInt8):Option (List UInt8):=zh1 (s.length+1) s
def zyr(first:List UInt8):List UInt8:=Lib.trimSuffix (za7 first zd3).1 [34]
def zpM(s:List UInt8):Bool:=(Lib.cut s nlL).2.2&&(za7 (Lib.cut s nlL).1 zd3).2&&Lib.hasSuffix (za7 (Lib.cut s nlL).1 zd3).1 [34]&&!Lib.containsAny (zyr (Lib.cut s nlL).1) zen
def zlk(s b:List UInt8):Option (zhE × List UInt8):=
 if zpM s=false then none
 else match zgJ (Lib.cut s nlL).2.1 with
  |none=>none
  |some r=>if (Lib.cut (nlL++r) (nlL++zbJ b)).2.2=false then none
   else some ((zyr (Lib.cut s nlL).1,Lib.trimPrefix (Lib.cut (nlL++r) (nlL++zbJ b)).1 nlL),(Lib.cut (nlL++r) (nlL++zbJ b)).2.1)
def zg2:Nat->List UInt8->List UInt8->Int->List zhE->Int × List zhE
 |0,_,_,_,_=>(4,[])
 |f+1,s,b,most,out=>
  if s=[45,45,13,10]then (0,out)
  else if Lib.hasPrefix s nlL=false then (4,[])
  else match zlk (s.drop 2) b with
   |none=>(4,[])
   |some (a,r)=>if most<=(out.length:Int)then (2,[])else zg2 f r b most (out++[a])
def zbs(s b:List UInt8)(most:Int):Int × List zhE:=
 if zbX b=false then (1,[])else if 4096<s.length then (2,[])else if Lib.hasPrefix s (zbJ b)=false then (4,[])else zg2 (s.length+1) (s.drop (zbJ b).length) b most []
theorem zzW{a p r:List UInt8}{j:Nat}(h:j+p.length<=a.length):Lib.occAt (a++r) p j=Lib.occAt a p j:=by
 unfold Lib.occAt;rw[ZL (by omega),Bool.eq_iff_iff,Ze,Ze];exact⟨λb=>List.prefix_of_prefix_length_le b (XH _ _) (by rw[QF];omega),λb=>b.trans (XH _ _)⟩
theorem zd8{a p:List UInt8}(h:∀j,j<=a.length->Lib.occAt a p j=false):Lib.contains a p=false:=by
 rcases Lib.index_spec a p with ⟨h1,_⟩|⟨i,_,h2,b,_⟩
 ·unfold Lib.contains;rw[h1];rfl
 ·rw[h i h2]at b;cases b
theorem zgZ{s p:List UInt8}(h:(Lib.cut s p).2.2=true):s=(Lib.cut s p).1++p++(Lib.cut s p).2.1/\(p≠[]->Lib.contains (Lib.cut s p).1 p=false):=by
 unfold Lib.cut at h ⊢
 by_cases e:0<=Lib.index s p
 ·rw[Qi e]
  rcases Lib.index_spec s p with ⟨h1,_⟩|⟨i,h1,h2,a,g⟩
  ·omega
  ·rw[h1,Q9]
   have n:=Lib.occAt_room a;dsimp only;unfold Lib.occAt at a;rw[Ze]at a;obtain⟨z,c⟩:=a;refine⟨?_,λd=>?_⟩
   ·have l:s.drop (i+p.length)=z:=by rw[<-Zy,<-c,ZH]
    rw[l,QH,c,Zm]
   ·refine zd8 λj m=>?_
    rw[Qz]at m
    rcases ZN (s.take i).length (j+p.length)with hl|hl
    ·cases k:Lib.occAt (s.take i) p j with
     |false=>rfl
     |true=>
      rcases Lib.occAt_room k with b|b
      ·omega
      ·exact absurd b d
    ·have f:0<p.length:=XO.2 d
     have:=zzW (r:=s.drop i) hl;rw[Zm]at this;rw[<-this];rw[Qz]at hl;exact g j (by omega)
 ·rw[Qe e]at h;cases h
theorem zid{b:List UInt8}(h:zbX b=true):1<=b.length/\b.length<=70:=by
 unfold zbX at h;simp only[QW,QY]at h;exact h.2
theorem zyt(v:List UInt8):Lib.trimPrefix (nlL++v) nlL=v:=by
 have h:Lib.hasPrefix (nlL++v) nlL=true:=by unfold Lib.hasPrefix;rw[Ze];exact XH _ _
 unfold Lib.trimPrefix;rw[Qi h,ZH]
theorem zee{s p:List UInt8}(h:(Lib.cut s p).2.2=true):(Lib.cut s p).2.1.length+p.length<=s.length:=by
 have:=Zt List.length (zgZ h).1;rw[Qa,Qa]at this;omega
theorem zmt:∀(f:Nat) {s r:List UInt8},zh1 f s=some r->r.length<=s.length
 |0,s,r,h=>by unfold zh1 at h;cases h
 |f+1,s,r,h=>by
  unfold zh1 at h;cases a:(Lib.cut s nlL).2.2 with
  |false=>rw[a,Qi rfl]at h;cases h
  |true=>
   rw[a,Qe (by decide)]at h;have h1:=zee a
   split at h
   ·injection h with h;subst h;omega
   ·have:=zmt f h;omega
theorem zxg{s r:List UInt8}(h:zgJ s=some r):r.length<=s.length:=zmt _ h
theorem zsA{s b:List UInt8}{a:zhE}{r:List UInt8}(hb:zbX b=true)(h:zlk s b=some (a,r)):badP b a=false/\r.length<s.length:=by
 unfold zlk at h;cases d:zpM s with
 |false=>rw[d,Qi rfl]at h;cases h
 |true=>
  rw[d,Qe (by decide)]at h;cases l:zgJ (Lib.cut s nlL).2.1 with
  |none=>rw[l]at h;cases h
  |some g=>
   rw[l]at h;dsimp only at h;cases m:(Lib.cut (nlL++g) (nlL++zbJ b)).2.2 with
   |false=>rw[m,Qi rfl]at h;cases h
   |true=>
    rw[m,Qe (by decide)]at h;injection h with h
    injection h with h1 h2
    unfold zpM at d;simp only[QW,Bool.not_eq_true']at d;obtain⟨⟨⟨p,D⟩,y⟩,w⟩:=d;obtain⟨o,k⟩:=zgZ m;have k:=k (by unfold nlL;simp);obtain⟨x,B⟩:=zid hb;have i:(nlL++zbJ b).length=b.length+4:=by unfold nlL zbJ;simp
    subst h1;subst h2
    refine⟨?_,?_⟩
    ·unfold badP
     rw[Xv];refine⟨w,?_⟩;show Lib.contains (nlL++Lib.trimPrefix (Lib.cut (nlL++g) (nlL++zbJ b)).1 nlL) (nlL++zbJ b)=false
     generalize (Lib.cut (nlL++g) (nlL++zbJ b)).1=V at *;cases f:Lib.hasPrefix V nlL with
     |true=>
      have c:=f;unfold Lib.hasPrefix at c;rw[Ze]at c;obtain⟨z,rfl⟩:=c;rw[zyt];exact k
     |false=>
      have v:Lib.trimPrefix V nlL=V:=by unfold Lib.trimPrefix;rw[f,Qe (by decide)]
      rw[v]
      have q:V.length<2:=by
       rcases ZN V.length 2 with h|h
       ·exact h
       ·exfalso
        have u:nlL <+:V:=by
         have n:nlL <+:(V++(nlL++zbJ b)++(Lib.cut (nlL++g) (nlL++zbJ b)).2.1):=by rw[<-o];exact XH _ _
         rw[QH]at n;exact List.prefix_of_prefix_length_le n (XH _ _) h
        unfold Lib.hasPrefix at f;rw[Ze.2 u]at f;cases f
      refine zd8 λj _=>?_
      cases t:Lib.occAt (nlL++V) (nlL++zbJ b) j with
      |false=>rfl
      |true=>
       exfalso
       rcases Lib.occAt_room t with e|e
       ·rw[i,Qa]at e
        have:nlL.length=2:=rfl;omega
       ·rw[e]at i;simp at i
    ·have e:=Zt List.length o
     rw[Qa,Qa,Qa,i]at e;have C:=zxg l;have A:=zee p;have:nlL.length=2:=rfl;omega
def zeJ:List UInt8:=[39,43,95,45,46]
theorem zxo{b:UInt8}{c i:Int}(a:c=(b|||32).toNat)(d:i=Lib.indexByte zeJ b)(h:(97<=c/\c<=122)\/(48<=(b.toNat:Int)/\(b.toNat:Int)<=57)\/0<=i):bndB b=true:=by
 subst d;subst a
 unfold bndB letB zeJ at *;simp only[Xo,QW,QY];omega
theorem zzy{b:UInt8}{c i:Int}(a:c=(b|||32).toNat)(d:i=Lib.indexByte zeJ b)(h:¬((97<=c/\c<=122)\/(48<=(b.toNat:Int)/\(b.toNat:Int)<=57)\/0<=i)):bndB b=false:=by
 subst d;subst a
 unfold bndB letB zeJ at *;simp only[Xv,Bool.and_eq_false_iff,decide_eq_false_iff_not];omega
def zxh(s:ByteArray)(i:Value):Prop:=∃k:Nat,k<=s.size/\i=.int .i64 k/\s.data.toList.all bndB=(s.data.toList.drop k).all bndB
theorem zlT(s:ByteArray)(w:World)(u:s.size<=maxLen):
 Calls prog 113 #[.string s] w λe w'=>e=.returned (.bool (zbX s.data.toList))/\w'=w:=by
 unfold maxLen at u;have m:Hid (s.data.toList.length=s.size):=by unfold Hid;simp
 go_in
 go_wp2_with fail
 go_loop [8] (λi=>zxh s i) (λi=>s.size-(intOf i).toNat)
 case atStart=>exact⟨0,Qm _,rfl,rfl⟩
 case round=>
  obtain⟨k,x,rfl,n⟩:=hrel;have a:=hIx n;clear n
  by_cases d:k<s.size
  ·have j:=hIx (zaG s k d)
   have q:=s[k].toNat_lt;obtain⟨c,g⟩:∃c:Int,c=(s[k]|||32).toNat:=⟨_,rfl⟩
   have t:bits BinOp.or IntKind.u8 (s[k].toNat:Int) 32=c:=by
    rw[g,UInt8.toNat_or];exact u8_or_nat _ _ s[k].toNat_lt (by decide)
   have h:=hIx g;clear g;obtain⟨o,p⟩:∃o:Int,o=Lib.indexByte zeJ s[k]:=⟨_,rfl⟩
   have b:=hIx p;clear p;go_wp2_with (go_at_call 122;refine(strings_IndexByte _ _ _).mono ?_;rintro e w' ⟨rfl,rfl⟩;rw[zew,show (ByteArray.mk #[39,43,95,45,46]).data.toList=zeJ from rfl,<-b.out])
   all_goals first
    |(
     go_ret
     exact⟨zaI (by unfold zbX;rw[a.out,j.out,ZT,zzy h.out b.out (by omega)];rfl),rfl⟩)
    |(
     try simp only[Bool.not_eq_eq_eq_not,Bool.not_false,QY]at *
     exact⟨⟨k+1,by omega,by go_num,by rw[a.out,j.out,ZT,zxo h.out b.out (by omega)];rfl⟩,by simp[intOf];omega⟩)
    |(
     go_round
     case rel=>exact⟨k+1,by omega,by go_num,by rw[a.out,j.out,ZT,zxo h.out b.out (by omega)];rfl⟩
     case measure=>simp[intOf] <;> omega)
  ·have v:Hid (s.data.toList.all bndB=true):=by
    unfold Hid;rw[a.out,QP (by rw[m.out];omega)];rfl
   have f:Hid (zbX s.data.toList=(decide (1<=s.size)&&decide (s.size<=70))):=by
    unfold Hid zbX;rw[v.out,m.out];rfl
   by_cases h1:1<=s.size
   ·by_cases h2:s.size<=70
    ·have l:decide ((1:Int)<=(s.size:Int))=true:=by simp;omega
     have r:decide ((s.size:Int)<=70)=true:=by simp;omega
     go_wp2;go_ret;exact⟨zaI (by rw[f.out,Qu h1,Qu h2];rfl),rfl⟩
    ·have l:decide ((1:Int)<=(s.size:Int))=true:=by simp;omega
     have r:decide ((s.size:Int)<=70)=false:=by simp;omega
     go_wp2;go_ret;exact⟨zaI (by rw[f.out,Qu h1,Qs h2];rfl),rfl⟩
   ·have l:decide ((1:Int)<=(s.size:Int))=false:=by simp;omega
    go_wp2;go_ret;exact⟨zaI (by rw[f.out,Qs h1];rfl),rfl⟩
theorem znx(s p:ByteArray)(w:World)(o:s.size<=maxLen):
 Calls prog 112 #[.string s,.string p] w λe w'=>e=.returned (.tuple #[.string (bs (za7 s.data.toList p.data.toList).1),.bool (za7 s.data.toList p.data.toList).2])/\Below w.heap.size w w':=by
 unfold maxLen at o;have j:s.data.toList.length=s.size:=by simp
 have g:p.data.toList.length=p.size:=by simp
 by_cases l:s.size<p.size
 ·have n:decide ((s.size:Int)<(p.size:Int))=true:=by simp;omega
  have f:Hid (za7 s.data.toList p.data.toList=(s.data.toList,false)):=by unfold Hid za7;rw[Qi (.inl (by omega))]
  rw[f.out];dsimp only;rw[zdZ]
  go_in
  go_wp2;exact Qj (v:=.tuple #[.string s,.bool false]) (by simp[results,results112,go_sem]) rfl ⟨rfl,Qg _ _⟩
 ·have n:decide ((s.size:Int)<(p.size:Int))=false:=by simp;omega
  have q:(p.size:Int)<=(s.size:Int):=by omega
  have c:(s.extract 0 p.size).data.toList=s.data.toList.take p.size:=by rw[ZG];simp
  have b:=hIx (zbg (s.extract 0 p.size) w (by unfold maxLen;rw[Xk];omega));have d:s.extract p.size s.size=bs (s.data.toList.drop p.size):=zg5 (Lib.extract_to_end s p.size);rw[c]at b;have i:=hIx d
  by_cases a:zav (s.data.toList.take p.size)=p.data.toList
  ·have f:Hid (za7 s.data.toList p.data.toList=(s.data.toList.drop p.size,true)):=by
    unfold Hid za7;rw[g,Qe];rintro(h|h)
    ·omega
    ·exact h a
   rw[f.out];dsimp only;rw[<-i.out];have m:((bs (zav (s.data.toList.take p.size))).toList==p.toList)=true:=by rw[zgs,a,QS];simp
   generalize bs (zav (s.data.toList.take p.size))=X at *;clear a c d j g
   go_in
   go_wp2_with fail;refine b.out.mono ?_;rintro e k ⟨rfl,hb⟩;go_wp2;exact Qj (v:=.tuple #[.string (s.extract p.size s.size),.bool true]) (by simp[results,results112,go_sem]) rfl ⟨rfl,hb⟩
  ·have f:Hid (za7 s.data.toList p.data.toList=(s.data.toList,false)):=by
    unfold Hid za7;rw[g,Qi (.inr a)]
   rw[f.out];dsimp only;rw[zdZ];have m:((bs (zav (s.data.toList.take p.size))).toList==p.toList)=false:=by rw[zgs,QS];exact Qb.2 a
   generalize bs (zav (s.data.toList.take p.size))=X at *;clear a c d j g
   go_in
   go_wp2_with fail;refine b.out.mono ?_;rintro e k ⟨rfl,hb⟩;go_wp2;exact Qj (v:=.tuple #[.string s,.bool false]) (by simp[results,results112,go_sem]) rfl ⟨rfl,hb⟩
def mfL:List UInt8:=[109,117,108,116,105,112,97,114,116,47,102,111,114,109,45,100,97,116,97]
def bdL:List UInt8:=[98,111,117,110,100,97,114,121,61]
def unqR(b:List UInt8):List UInt8:=if 2<=b.length/\b[0]? = some 34/\b[b.length-1]? = some 34 then (b.drop 1).take (b.length-2)else b
def bdyR(v:List UInt8):List UInt8 × Bool:=
 if zav (Lib.cut v [59]).1≠mfL\/(za7 (zaF (Lib.cut v [59]).2.1) bdL).2=false then ([],false)
 else if zbX (unqR (za7 (zaF (Lib.cut v [59]).2.1) bdL).1)=false then ([],false)else (unqR (za7 (zaF (Lib.cut v [59]).2.1) bdL).1,true)
theorem zwY(s:ByteArray)(i:Nat)(h:i<s.size)(x:UInt8):(s.data.toList[i]? = some x)=((s[i].toNat:Int)=(x.toNat:Int)):=by
 rw[XL s i h,propext_iff]
 constructor
 ·intro e;rw[QD e]
 ·intro e;rw[Lib.byte_eq_of_toNat e]
theorem zh0(s d:ByteArray)(W:World)(h:s.size<4294967281)(hl:LibOk W){a b:List UInt8}{c:Bool}(i:Lib.cut s.data.toList d.data.toList=(a,b,c)):
 Calls prog 78 #[.string s,.string d] W λe w'=>e=.returned (.tuple #[.string (bs a),.string (bs b),.bool c])/\Below W.heap.size W w':=by
 obtain⟨g,f⟩:=hl;refine(strings_Cut s d g W h f).mono ?_;rintro e w' ⟨rfl,n,rfl⟩;rw[i];exact⟨rfl,below_drewN (Qg _ _) n⟩
theorem zyN{v b a:List UInt8}{d:Bool}(c:Lib.cut v [59]=(b,a,d)):bdyR v=if zav b≠mfL\/(za7 (zaF a) bdL).2=false then ([],false)
 else if zbX (unqR (za7 (zaF a) bdL).1)=false then ([],false)else (unqR (za7 (zaF a) bdL).1,true):=by
 unfold bdyR;rw[c]
theorem zhY(l:List UInt8):(zaF l).length<=l.length:=by
 unfold zaF zc7;rw[List.length_reverse];refine Qn (XW _).length_le ?_;rw[List.length_reverse];exact(XW _).length_le
theorem znf(s p:List UInt8):(za7 s p).1.length<=s.length:=by
 unfold za7
 split
 ·exact Qd _
 ·show (s.drop _).length<=_;rw[QF];omega
theorem zmz(v:ByteArray)(w:World)(hv:v.size<4294967281)(y:LibOk w):
 Calls prog 81 #[.string v] w λe w'=>e=.returned (.tuple #[.string (bs (bdyR v.data.toList).1),.bool (bdyR v.data.toList).2])/\Below w.heap.size w w':=by
 obtain⟨G,t,cc,Q⟩:∃a b c,Lib.cut v.data.toList (ByteArray.mk #[59]).data.toList=(a,b,c):=⟨_,_,_,rfl⟩
 have A:=hIx (zh0 v (ByteArray.mk #[59]) w hv y Q);have S:(ByteArray.mk #[59]).data.toList=[59]:=rfl;rw[S]at Q;obtain⟨l1,Y⟩:=zcQ v.data.toList [59];have h0:v.data.toList.length=v.size:=by simp
 have u:=hIx (zyN Q);generalize bdyR v.data.toList=R at *;rw[Q]at l1 Y;dsimp only at l1 Y
 have P:Hid (∀W,Calls prog 80 #[.string (bs t)] W λe w'=>e=.returned (.string (bs (zaF t)))/\w'=W):=λW=>by
  have:=zdK (bs t) W (by rw[zaj];unfold maxLen;omega);rw[zae]at this;exact this
 have h3:=zhY t
 have L:Hid (∀W,Calls prog 64 #[.string (bs G)] W (zbN (bs (zav G)) W)):=λW=>by
  have:=zbg (bs G) W (by rw[zaj];unfold maxLen;omega);rw[zae]at this;exact this
 have E:∀W,Calls prog 112 #[.string (bs (zaF t)),.string (.mk #[98,111,117,110,100,97,114,121,61])] W λe w'=>e=.returned (.tuple #[.string (bs (za7 (zaF t) bdL).1),.bool (za7 (zaF t) bdL).2])/\Below W.heap.size W w':=λW=>by
  have:=znx (bs (zaF t)) (ByteArray.mk #[98,111,117,110,100,97,114,121,61]) W (by rw[zaj];unfold maxLen;omega);have eb:(ByteArray.mk #[98,111,117,110,100,97,114,121,61]).data.toList=bdL:=rfl;rw[zae,eb]at this;exact this
 have J:=znf (zaF t) bdL;generalize za7 (zaF t) bdL=F at *;obtain⟨d,fo⟩:=F;dsimp only at u E J;have I:=hIx E
 have x:Hid (∀(l:List UInt8) W,l.length<=v.size->Calls prog 113 #[.string (bs l)] W λe w'=>e=.returned (.bool (zbX l))/\w'=W):=λl W h=>by
  have:=zlT (bs l) W (by rw[zaj];unfold maxLen;omega);rw[zae]at this;exact this
 have C:d.length<=v.size:=by omega
 generalize zaF t=tb at *;generalize hX:bs (zav G)=X at *
 have q1:((X.toList==[109,117,108,116,105,112,97,114,116,47,102,111,114,109,45,100,97,116,97])=true)=(zav G=mfL):=by
  rw[<-hX,zgs,Zk];rfl
 have H:=hIx q1;clear E Q S hX q1 h3 J l1 Y h0 y
 go_in
 go_wp2_with (go_at_call 78;apply Hid.out);refine WhM A ?_;rintro e w1 ⟨rfl,V⟩;have D:=hIx V;clear V A;go_wp2_with (first|(go_at_call 80;refine(P.out _).mono ?_;rintro e z ⟨rfl,p⟩;rw[p])|(go_at_call 112;apply Hid.out));unfold Hid;refine(I.out w1).mono ?_;rintro e w2 ⟨rfl,N⟩;have B:=hIx (D.out.trans (N.mono D.out.size));clear N D I P;go_wp2_with (go_at_call 64;apply Hid.out);unfold Hid;refine(L.out w2).mono ?_;rintro e w3 ⟨rfl,O⟩;have k:=hIx (B.out.trans (O.mono B.out.size));clear O B L
 by_cases q:(X.toList==[109,117,108,116,105,112,97,114,116,47,102,111,114,109,45,100,97,116,97])=true
 ·have Z:Hid (zav G=mfL):=by rw[<-H.out];exact q
  cases fo with
  |false=>
   have j:Hid (R=([],false)):=by unfold Hid;rw[u.out,Qi (.inr rfl)]
   go_wp2;exact Qj (v:=.tuple #[.string (.mk #[]),.bool false]) (by simp[results,results81,go_sem]) rfl ⟨by rw[j.out];rfl,k.out⟩
  |true=>
   have j:Hid (R=if zbX (unqR d)=false then ([],false)else (unqR d,true)):=by
    unfold Hid;rw[u.out,Qe];rintro(h|h)
    ·exact h Z.out
    ·cases h
   have r:(bs d).size=d.length:=zaj d;have s:(bs d).data.toList=d:=rfl;have T:Hid (unqR d=if 2<=d.length/\d[0]? = some 34/\d[d.length-1]? = some 34 then (d.drop 1).take (d.length-2)else d):=rfl;have m:∀i (h:i<(bs d).size),(d[i]? = some 34)=(((bs d)[i].toNat:Int)=34):=λi h=>zwY (bs d) i h 34
   by_cases c1:2<=d.length
   ·have d1:decide ((2:Int)<=(d.length:Int))=true:=by simp;omega
    have i1:(0:Int)<(d.length:Int):=by omega
    have i2:IntKind.i64.wrap ((d.length:Int)-1)=(d.length:Int)-1:=Qx _ (by omega);have i3:(0:Int)<=(d.length:Int)-1:=by omega
    have i4:(d.length:Int)-1<(d.length:Int):=by omega
    have i5:((d.length:Int)-1).toNat=d.length-1:=by omega
    have i6:(1:Int)<=(d.length:Int)-1:=by omega
    have i7:(d.length:Int)-1<=(d.length:Int):=by omega
    by_cases c2:d[0]? = some 34
    ·have q2:(((bs d)[0]'(by rw[r];omega)).toNat:Int)=34:=by rw[<-m];exact c2
     by_cases c3:d[d.length-1]? = some 34
     ·have q3:(((bs d)[d.length-1]'(by rw[r];omega)).toNat:Int)=34:=by rw[<-m];exact c3
      have o:Hid (unqR d=(d.drop 1).take (d.length-2)):=by unfold Hid;rw[T.out,Qi ⟨c1,c2,c3⟩]
      have h4:(bs d).extract 1 (d.length-1)=bs ((d.drop 1).take (d.length-2)):=zg5 (by rw[ZG,s,show d.length-1-1=d.length-2 by omega]);have K:((d.drop 1).take (d.length-2)).length<=v.size:=by rw[Qz];omega
      rw[o.out]at j;obtain⟨U,hU⟩:∃U,(d.drop 1).take (d.length-2)=U:=⟨_,rfl⟩
      rw[hU]at j h4 K;clear hU o T;have f:=hIx (x.out (U) w3 K);clear m s;cases n:zbX (U)with
      |true=>
       rw[n]at f j;have g:Hid (R=(U,true)):=by unfold Hid;rw[j.out,Qe (by decide)]
       clear n;go_wp2_with (go_at_call 113;refine f.out.mono ?_;rintro e z ⟨rfl,p⟩;rw[p]);exact Qj (v:=.tuple #[.string (bs (U)),.bool true]) (by simp[results,results81,go_sem]) rfl ⟨by rw[g.out],k.out⟩
      |false=>
       rw[n]at f j;have g:Hid (R=([],false)):=by unfold Hid;rw[j.out,Qi rfl]
       clear n;go_wp2_with (go_at_call 113;refine f.out.mono ?_;rintro e z ⟨rfl,p⟩;rw[p]);exact Qj (v:=.tuple #[.string (.mk #[]),.bool false]) (by simp[results,results81,go_sem]) rfl ⟨by rw[g.out];rfl,k.out⟩
     ·have q3:((((bs d)[d.length-1]'(by rw[r];omega)).toNat:Int)==34)=false:=Qb.2 (by rw[<-m]at *;intro e;apply c3;rw[m _ (by rw[r];omega)];exact e)
      have o:Hid (unqR d=d):=by unfold Hid;rw[T.out,Qe (λh=>c3 h.2.2)]
      rw[o.out]at j;have f:=hIx (x.out (d) w3 C);clear m s;cases n:zbX (d)with
      |true=>
       rw[n]at f j;have g:Hid (R=(d,true)):=by unfold Hid;rw[j.out,Qe (by decide)]
       clear n;go_wp2_with (go_at_call 113;refine f.out.mono ?_;rintro e z ⟨rfl,p⟩;rw[p]);exact Qj (v:=.tuple #[.string (bs (d)),.bool true]) (by simp[results,results81,go_sem]) rfl ⟨by rw[g.out],k.out⟩
      |false=>
       rw[n]at f j;have g:Hid (R=([],false)):=by unfold Hid;rw[j.out,Qi rfl]
       clear n;go_wp2_with (go_at_call 113;refine f.out.mono ?_;rintro e z ⟨rfl,p⟩;rw[p]);exact Qj (v:=.tuple #[.string (.mk #[]),.bool false]) (by simp[results,results81,go_sem]) rfl ⟨by rw[g.out];rfl,k.out⟩
    ·have q2:((((bs d)[0]'(by rw[r];omega)).toNat:Int)==34)=false:=Qb.2 (by intro e;apply c2;rw[m _ (by rw[r];omega)];exact e)
     have o:Hid (unqR d=d):=by unfold Hid;rw[T.out,Qe (λh=>c2 h.2.1)]
     rw[o.out]at j;have f:=hIx (x.out (d) w3 C);clear m s;cases n:zbX (d)with
     |true=>
      rw[n]at f j;have g:Hid (R=(d,true)):=by unfold Hid;rw[j.out,Qe (by decide)]
      clear n;go_wp2_with (go_at_call 113;refine f.out.mono ?_;rintro e z ⟨rfl,p⟩;rw[p]);exact Qj (v:=.tuple #[.string (bs (d)),.bool true]) (by simp[results,results81,go_sem]) rfl ⟨by rw[g.out],k.out⟩
     |false=>
      rw[n]at f j;have g:Hid (R=([],false)):=by unfold Hid;rw[j.out,Qi rfl]
      clear n;go_wp2_with (go_at_call 113;refine f.out.mono ?_;rintro e z ⟨rfl,p⟩;rw[p]);exact Qj (v:=.tuple #[.string (.mk #[]),.bool false]) (by simp[results,results81,go_sem]) rfl ⟨by rw[g.out];rfl,k.out⟩
   ·have d1:decide ((2:Int)<=(d.length:Int))=false:=by simp;omega
    have o:Hid (unqR d=d):=by unfold Hid;rw[T.out,Qe (λh=>c1 h.1)]
    rw[o.out]at j;have f:=hIx (x.out (d) w3 C);clear m s;cases n:zbX (d)with
    |true=>
     rw[n]at f j;have g:Hid (R=(d,true)):=by unfold Hid;rw[j.out,Qe (by decide)]
     clear n;go_wp2_with (go_at_call 113;refine f.out.mono ?_;rintro e z ⟨rfl,p⟩;rw[p]);exact Qj (v:=.tuple #[.string (bs (d)),.bool true]) (by simp[results,results81,go_sem]) rfl ⟨by rw[g.out],k.out⟩
    |false=>
     rw[n]at f j;have g:Hid (R=([],false)):=by unfold Hid;rw[j.out,Qi rfl]
     clear n;go_wp2_with (go_at_call 113;refine f.out.mono ?_;rintro e z ⟨rfl,p⟩;rw[p]);exact Qj (v:=.tuple #[.string (.mk #[]),.bool false]) (by simp[results,results81,go_sem]) rfl ⟨by rw[g.out];rfl,k.out⟩
 ·have h5:(X.toList==[109,117,108,116,105,112,97,114,116,47,102,111,114,109,45,100,97,116,97])=false:=by simpa using q
  have j:Hid (R=([],false)):=by unfold Hid;rw[u.out,Qi (.inl (λh=>q (by rw[H.out];exact h)))]
  clear q;go_wp2;exact Qj (v:=.tuple #[.string (.mk #[]),.bool false]) (by simp[results,results81,go_sem]) rfl ⟨by rw[j.out];rfl,k.out⟩
def ckP(x:List UInt8):Pair:=(bs (Lib.cut x [61]).1,bs (Lib.cut x [61]).2.1)
def ckX(x:List UInt8):List Pair:=if (zaF x).isEmpty then []else [ckP (zaF x)]
def ckL(s:List UInt8):List Pair:=(splL 59 s).flatMap ckX
def zcf(a:List ByteArray):List Pair:=a.flatMap λs=>ckL s.data.toList
theorem zq4(a:List ByteArray)(k:Nat)(h:k<a.length):zcf (a.take (k+1))=zcf (a.take k)++(splL 59 a[k].data.toList).flatMap ckX:=by
 unfold zcf;rw[Qq h,Q4,QM,XE,QI]
 rfl
theorem zv7(a:List (List UInt8))(j:Nat)(h:j<a.length):(a.take (j+1)).flatMap ckX=(a.take j).flatMap ckX++ckX a[j]:=by
 rw[Qq h,Q4,QM,XE,QI]
theorem zzD(a:List (List UInt8))(j:Nat):((a.take j).flatMap ckX).length<=(a.flatMap ckX).length:=by
 have:(a.take j).flatMap ckX++(a.drop j).flatMap ckX=a.flatMap ckX:=by rw[<-Q4,Zm]
 rw[<-this,Qa];omega
theorem zph(a:List ByteArray)(k:Nat):(zcf (a.take k)).length<=(zcf a).length:=by
 have:zcf (a.take k)++zcf (a.drop k)=zcf a:=by unfold zcf;rw[<-Q4,Zm]
 rw[<-this,Qa];omega
def zfL(most:Int)(a:List ByteArray)(w:World)(e:Ending)(w':World):Prop:=
 ((zcf a).length<=most.toNat/\∃v,e=.returned (.tuple #[v,.int .i64 0])/\OwnA w' w.heap.size v (zcf a)/\Below w.heap.size w w')\/(most.toNat<(zcf a).length/\e=.returned (.tuple #[.slice none 0 0,.int .i64 2])/\Below w.heap.size w w')
def zrU(a:List ByteArray)(most:Int)(w:World)(v i:Value)(wr:World):Prop:=
 ∃k:Nat,k<=a.length/\i=.int .i64 k/\OwnA wr w.heap.size v (zcf (a.take k))/\Hid ((zcf (a.take k)).length<=most.toNat)/\Below w.heap.size w wr
def CkIn(a:List Pair)(qs:List (List UInt8))(b:List ByteArray)(c:Nat)(most:Int)(w:World)(v i:Value)(wr:World):Prop:=
 ∃j:Nat,j<=b.length/\i=.int .i64 j/\OwnA wr w.heap.size v (a++(qs.take j).flatMap ckX)/\Hid ((a++(qs.take j).flatMap ckX).length<=most.toNat)/\Below w.heap.size w wr/\wr.heap[c]? = some (.cells (b.map Value.string).toArray 9 (0,0))
theorem znS(d:List ByteArray)(A:Option Addr)(c:Nat)(most:Int)(w:World)(h:Sl w w.heap.size 1 A d.length (d.map Value.string))(hs:∀s∈d,s.size<=4194304)(hl:d.length<=4194304)(hm:most<=4194304)(T:LibOk w):
 Calls prog 51 #[.slice A d.length c,.int .i64 most] w (zfL most d w):=by
 have hJ:Hid (∀W,Below w.heap.size w W->∀k (hk:k<d.length),∃b D,A=some ⟨b,D,none⟩/\W.cell? ⟨b,D+k,none⟩=some (.string d[k])):=λW hb k hk=>by
  obtain⟨b,D,e,hu,hc⟩:=h.src (by rw[Qh];omega);refine⟨b,D,e,(hb.cell hu).trans ?_⟩;rw[hc k (by rw[Qh];exact hk),Zd]
 have hd:Hid (∀W,Below w.heap.size w W->LibOk W):=λW hb=>T.below hb
 have HS:=hIx hs;clear h hs T
 go_in
 go_wp2
 go_loopw [6,16] (λv i wr=>zrU d most w v i wr) (λ_ i _=>d.length-(intOf i).toNat)
 case atStart=>exact⟨0,Qm _,rfl,OwnA.nil _ _,Qm _,Qg _ _⟩
 case round=>
  obtain⟨k,hk,rfl,u,a,z⟩:=hrel;have hi:=zph d k;obtain⟨Ao,co,rfl,_⟩:=u.form
  by_cases h4:k<d.length
  ·have i7:IntKind.i64.wrap ((k:Int)+1)=(k:Int)+1:=Qx _ (by omega)
   have ht:decide ((k:Int)<(d.length:Int))=true:=by simp;omega
   obtain⟨b,D,rfl,x0⟩:=hJ.out wr z k h4;obtain⟨m0,C⟩:=hd.out wr z;have hU:=HS.out d[k] (Qy h4);have O:=hIx (zq4 d k h4);have F:=zph d (k+1);generalize d[k]=X at *;have H:=strings_Split X ⟨#[59]⟩ m0 wr (by omega) C (by decide);have E:=zb2 59 X;have P:=Xi ⟨#[59]⟩ (by decide) 0 _ X rfl;generalize Lib.splitB ⟨#[59]⟩ 0 (Lib.countB X ⟨#[59]⟩) X=q at H E P;generalize Lib.countB X ⟨#[59]⟩=n at H P;rw[<-P]at H;have hw:X.data.toList.length=X.size:=by simp
   have hF:(splL 59 X.data.toList).length=q.length:=by rw[<-E,Qh]
   have hg:Hid (∀p∈q,p.size<=4194304):=λp hp=>by
    have hm:p.data.toList∈splL 59 X.data.toList:=by rw[<-E];exact QO.2 ⟨p,hp,rfl⟩
    have h1:=zbZ 59 X.data.toList _ hm;have h3:p.data.toList.length=p.size:=by simp
    omega
   have hV:q.length<=4194305:=by have:=zdR 59 X.data.toList;omega
   have h9:Hid (∀j (h:j<q.length) (h2:j<(splL 59 X.data.toList).length),q[j].data.toList=(splL 59 X.data.toList)[j]):=λj h h2=>by simp[<-E]
   have ha:=hIx H;clear H E P C hw;generalize splL 59 X.data.toList=qs at *;have V:Hid ((zcf (d.take k)++qs.flatMap ckX).length<=(zcf d).length):=by unfold Hid;rw[<-O.out];exact F
   have Y:Hid (most.toNat<(zcf (d.take k)++qs.flatMap ckX).length->most.toNat<(zcf d).length):=λh=>Qv h V.out
   generalize hH:zcf (d.take k)=l at *;have y:=hIx u;have o:=hIx z;clear u z hi F hH;go_wp2_with fail;refine ha.out.mono ?_;rintro e w3 ⟨rfl,h6⟩;have h5:Below wr.heap.size wr w3:=by rw[h6];exact WaL
   have hh:w3.heap[wr.heap.size]? = some (.cells (q.map Value.string).toArray 9 (0,0)):=by rw[h6];exact Qp wr _
   have hP:Hid (CkIn l qs q wr.heap.size most w (.slice Ao l.length co) (.int .i64 0) w3):=⟨0,Qm _,rfl,by simpa using y.out.below h5,by simpa using a,o.out.trans (h5.mono o.out.size),hh⟩
   have hW:=o.out.size;clear h6 h5 hh ha y o a;obtain⟨wo,rfl⟩:∃wo:World,wo=wr:=⟨_,rfl⟩
   go_wp2
   go_loopw [6,23] (λv i wr=>CkIn l qs q wo.heap.size most w v i wr) (λ_ i _=>q.length-(intOf i).toNat)
   case atStart=>exact hP.out
   case round=>
    obtain⟨j,hj,rfl,u,a,z,m⟩:=hrel;obtain⟨Ai,ci,rfl,_⟩:=u.form
    have hx:wo.heap.size<wr.heap.size:=by
     rw[Q1]at m;exact m.1
    have hE:=z.size
    by_cases J:j<q.length
    ·have dj:decide ((j:Int)<(q.length:Int))=true:=by simp;omega
     have i9:IntKind.i64.wrap ((j:Int)+1)=(j:Int)+1:=Qx _ (by omega)
     have y0:wr.cell? ⟨wo.heap.size,j,none⟩=some (.string q[j]):=by
      rw[Qf wr _ j _ _ _ m];simp[J]
     have hT:=hg.out q[j] (Qy J);have HX:=hIx (h9.out j J (by omega));have S:=hIx (zv7 qs j (by omega));have U:=zzD qs (j+1);rw[<-HX.out]at S;generalize q[j]=p at *;have hC:p.data.toList.length=p.size:=by simp
     have hI:=zhY p.data.toList;have h7:Hid (∀W,Calls prog 80 #[.string p] W λe w'=>e=.returned (.string (bs (zaF p.data.toList)))/\w'=W):=λW=>zdK p W (by unfold maxLen;omega)
     have L:Hid (ckX p.data.toList=if (zaF p.data.toList).isEmpty then []else [ckP (zaF p.data.toList)]):=rfl;have hq:(zaF p.data.toList).length<=4194304:=by omega
     have t:(bs (zaF p.data.toList)).data.toList=zaF p.data.toList:=zae _;generalize zaF p.data.toList=K at *;generalize hQ:bs K=Q at *;have hR:Q.size<=4194304:=by rw[<-hQ,zaj];exact hq
     have hv:(l++(qs.take j).flatMap ckX).length<=4194304:=by have:=a.out;omega
     have N:Hid (K.isEmpty=false->most<=((l++(qs.take j).flatMap ckX).length:Int)->most.toNat<(zcf d).length):=λB hG=>Y.out (by
      rw[Qa]at hG ⊢;rw[S.out,L.out,Qe (by rw[B];decide),Qa,QG]at U;omega)
     generalize h0:l++(qs.take j).flatMap ckX=f at *;have I:Hid (l++(qs.take (j+1)).flatMap ckX=f++ckX p.data.toList):=by unfold Hid;rw[S.out,<-h0,QH]
     have y:=hIx u;have o:=hIx z;have G:=hIx m;clear u z m U hC hI hQ h0 S HX;cases B:K.isEmpty with
     |true=>
      have qx:Q.toList.isEmpty=true:=by rw[QS,t];exact B
      have hL:(Q.toList==[])=true:=by rw[QS,t];cases K with|nil=>rfl|cons _ _=>cases B
      have x:Hid (l++(qs.take (j+1)).flatMap ckX=f):=by unfold Hid;rw[I.out,L.out,Qi B,QI]
      clear B N t;go_wp2_with fail;refine(h7.out wr).mono ?_;rintro e w4 ⟨rfl,r⟩;rw[r];clear r;go_wp2;exact⟨⟨j+1,by omega,rfl,by rw[x.out];exact y.out,by rw[x.out];exact a,o.out,G.out⟩,by dsimp only[intOf];omega⟩
     |false=>
      have qx:Q.toList.isEmpty=false:=by rw[QS,t];exact B
      have hL:(Q.toList==[])=false:=by rw[QS,t];cases K with|nil=>cases B|cons _ _=>rfl
      by_cases g:most<=(f.length:Int)
      ·have d2:decide (most<=(f.length:Int))=true:=Qu g
       have HP:Hid (zfL most d w (.returned (.tuple #[.slice none 0 0,.int .i64 2])) wr):=.inr ⟨N.out B g,rfl,o.out⟩;clear B g N t;go_wp2_with fail;refine(h7.out wr).mono ?_;rintro e w4 ⟨rfl,r⟩;rw[r];clear r;go_wp2;exact Qj (v:=.tuple #[.slice none 0 0,.int .i64 2]) (by simp[results,results51,go_sem]) rfl HP.out
      ·have d2:decide (most<=(f.length:Int))=false:=Qs g
       have hy:Hid (f.length+1<=most.toNat):=by unfold Hid;omega
       have x:Hid (l++(qs.take (j+1)).flatMap ckX=f++[ckP K]):=by unfold Hid;rw[I.out,L.out,Qe (by rw[B];decide)]
       obtain⟨m0,C⟩:=hd.out wr o.out;have hcut:=strings_Cut Q ⟨#[61]⟩ m0 wr (by omega) C;rw[t]at hcut;have h8:ckP K=(bs (Lib.cut K [61]).1,bs (Lib.cut K [61]).2.1):=rfl;have ho:(⟨#[61]⟩:ByteArray).data.toList=[61]:=rfl;rw[ho]at hcut;rw[h8]at x;generalize Lib.cut K [61]=CT at *;have hN:=hIx hcut;clear B g N t hcut C h8 ho L I;go_wp2_with fail;refine(h7.out wr).mono ?_;rintro e w4 ⟨rfl,r⟩;rw[r];clear r;go_wp2_with fail;refine hN.out.mono ?_;rintro e w5 ⟨rfl,nq,rfl⟩;have hr:OwnA (wr.drewN nq) w.heap.size (.slice Ai f.length ci) f:=y.out;have hz:w.heap.size<=(wr.drewN nq).heap.size:=hE;have Z:(Value.slice Ai f.length ci).ownBlock≠some wo.heap.size:=zbA y.out G.out (by decide);have hn:=hIx Z;clear Z;go_wp2_with (at_builtin;refine za4 rfl (.tmp 41) (.tmp 45) rfl w.heap.size (.slice Ai f.length ci) f rfl (by exact hr) (by exact hz) _ (bs CT.1,bs CT.2.1) rfl (wr.drewN nq).heap.size rfl 1 rfl (by exact hv) ?_;intro v5 w6 hK hD hA hS);exact⟨⟨j+1,by omega,rfl,by rw[x.out];exact hK,by rw[x.out,Qa];exact hy.out,o.out.trans (zfu hD),(hA _ hx hn.out).trans G.out⟩,by dsimp only[intOf];omega⟩
    ·obtain rfl:j=q.length:=by omega
     have dj:decide ((q.length:Int)<(q.length:Int))=false:=by simp
     have e1:qs.take q.length=qs:=by rw[<-hF,QV]
     rw[e1]at u a;have HN:Hid (zrU d most w (.slice Ai (l++qs.flatMap ckX).length ci) (.int .i64 ((k:Int)+1)) wr):=⟨k+1,by omega,rfl,by rw[O.out];exact u,by rw[O.out];exact a,z⟩
     rw[e1];clear u a z m e1 O V Y h9 hg;go_wp2;exact⟨HN.out,by dsimp only[intOf];omega⟩
  ·obtain rfl:k=d.length:=by omega
   have ht:decide ((d.length:Int)<(d.length:Int))=false:=by simp
   rw[QV]at u a ⊢;have HP:Hid (zfL most d w (.returned (.tuple #[.slice Ao (zcf d).length co,.int .i64 0])) wr):=.inl ⟨a.out,_,rfl,u,z⟩;clear u a z hi;generalize zcf d=CV at *;go_wp2_with fail;refine Qj (v:=.tuple #[.slice Ao CV.length co,.int .i64 0]) (by simp[results,results51,go_sem]) rfl HP.out
def znR(a:ByteArray)(f:ByteArray × ByteArray):Bool:=zav f.1.data.toList==zav a.data.toList
def getL(b:List (ByteArray × ByteArray))(a:ByteArray):List ByteArray:=(b.filter (znR a)).map (·.2)
theorem zuT(b:List (ByteArray × ByteArray))(a:ByteArray)(k:Nat)(h:k<b.length):getL (b.take (k+1)) a=getL (b.take k) a++if znR a b[k]=true then [b[k].2]else []:=by
 unfold getL;rw[Qq h,ZM,QU]
 by_cases c:znR a b[k]=true <;> simp[c]
theorem zpI(b:List (ByteArray × ByteArray))(a:ByteArray)(k:Nat):(getL (b.take k) a).length<=k:=by
 unfold getL;rw[Qh];exact Qn (Zl _ _) (ZU _ _)
theorem zfB(b:List (ByteArray × ByteArray))(a:ByteArray):(getL b a).length<=b.length:=by
 have:=zpI b a b.length;rw[QV]at this;exact this
def zzO(w:World)(b:List (ByteArray × ByteArray))(a:ByteArray)(v i:Value)(wr:World):Prop:=
 ∃k:Nat,k<=b.length/\i=.int .i64 k/\OwnS wr w.heap.size v (getL (b.take k) a)/\Below w.heap.size w wr
def zgz(l:List ByteArray)(w:World)(e:Ending)(w':World):Prop:=∃v,e=.returned v/\OwnS w' w.heap.size v l/\Below w.heap.size w w'
theorem zhV(m t:ByteArray)(A:Option Addr)(n c:Nat)(d:List (ByteArray × ByteArray))(a:ByteArray)(w:World)(G:n=d.length)(z:Sl w w.heap.size 2 A n (zd1 d))
 (x:∀f∈d,f.1.size<=maxLen) (p:a.size<=maxLen) (hl:d.length<=4398046511104):
 Calls prog 52 #[.agg #[.string m,.string t,.slice A n c],.string a] w (zgz (getL d a) w):=by
 subst G
 go_in
 go_wp2
 go_loopw [5,11] (λv i wr=>zzO w d a v i wr) (λ_ i _=>d.length-(intOf i).toNat)
 case atStart=>exact⟨0,Qm _,rfl,OwnS.nil _ _,WaL⟩
 case round=>
  obtain⟨k,L,rfl,g,hb⟩:=hrel
  by_cases l:k<d.length
  ·obtain⟨b,E,rfl,H,J,F⟩:=(z.below hb).field l
   have N:=hIx x;have D:=x _ (Qy l);clear x z;go_wp2_with fail;refine(zbg _ _ D).mono ?_;rintro e K ⟨rfl,r⟩;go_wp2_with fail;refine(zbg _ _ p).mono ?_;rintro e w2 ⟨rfl,s⟩;have j:=r.trans (s.mono r.size);have O:=zar j 1;have h:=g.later j;have q:=hb.trans (zaJ j hb.size);have C:=q.size;have y:=hIx (zuT d a k l);have I:=zpI d a k;clear g r s j;go_wp2_with (at_builtin;refine zbD rfl _ _ rfl w.heap.size _ (getL (d.take k) a) rfl (by exact h) (by exact C) [.string d[k].2] [d[k].2] rfl 1 1 rfl rfl (by omega) ?_;intro v' w3 o u _ B)
   ·have h1:znR a d[k]=true:=by assumption
    go_roundw
    case rel=>exact⟨k+1,by omega,by go_num,by rw[y.out,Qi h1];exact o,q.trans u⟩
    case measure=>simp[intOf] <;> omega
   ·have h1:znR a d[k]=false:=by assumption
    go_roundw
    case rel=>exact⟨k+1,by omega,by go_num,by rw[y.out,h1];simpa using h,q⟩
    case measure=>simp[intOf] <;> omega
  ·obtain rfl:k=d.length:=by omega
   go_wp2;go_ret;exact⟨_,rfl,by rw[QV]at g;exact g,hb⟩
