/- Lemmas for the last texts. -/
import Derived.Test.YtnnokglddolglaaGreatDoorM18
import Derived.Lib.IndexMore
import Derived.Lib.IndexAny
set_option maxHeartbeats 6400000
set_option maxRecDepth 100000
namespace Go.Proofs.YtnnokglddolglaaGreatDoor
open Go.RowKit Go.Proofs.Tryz
def bndB(b:UInt8):Bool:=letB b||decide (0<=Lib.indexByte [39,43,95,45,46] b)
def zbT(l:jE):Bool:=l.all bndB&&(decide (1<=l.length)&&decide (l.length<=70))
def zdU:jE:=[99,111,110,116,101,110,116,45,100,105,115,112,111,115,105,116,105,111,110,58,32,102,111,114,109,45,100,97,116,97,59,32,110,97,109,101,61,34]
def zd9:jE:=[34,13,10]
def nlL:jE:=[13,10]
def zbF(b:jE):jE:=45::45::b
def za2(s p:jE):jE × Bool:=if s.length<p.length\/zay (s.take p.length)≠p then (s,false)else (s.drop p.length,true)
abbrev zhm:=jE × jE
def badP(b:jE)(a:zhm):Bool:=Lib.containsAny a.1 zd9||Lib.contains (nlL++a.2) (nlL++zbF b)
def zhO:Nat->jE->Option jE
 |0,_=>none
 |f+1,s=>if (Lib.cut s nlL).2.2=false then none else if (Lib.cut s nlL).1=[]then some (Lib.cut s nlL).2.1 else zhO f (Lib.cut s nlL).2.1
def zgt(s:jE):Option jE:=zhO (s.length+1) s
def zxI(first:jE):jE:=Lib.trimSuffix (za2 first zdU).1 [34]
def zpf(s:jE):Bool:=(Lib.cut s nlL).2.2&&(za2 (Lib.cut s nlL).1 zdU).2&&Lib.hasSuffix (za2 (Lib.cut s nlL).1 zdU).1 [34]&&!Lib.containsAny (zxI (Lib.cut s nlL).1) zd9
def zkT(s b:jE):Option (zhm × jE):=
 if zpf s=false then none
 else match zgt (Lib.cut s nlL).2.1 with
  |none=>none
  |some r=>if (Lib.cut (nlL++r) (nlL++zbF b)).2.2=false then none
   else some ((zxI (Lib.cut s nlL).1,Lib.trimPrefix (Lib.cut (nlL++r) (nlL++zbF b)).1 nlL),(Lib.cut (nlL++r) (nlL++zbF b)).2.1)
def zgL:Nat->jE->jE->Int->List zhm->Int × List zhm
 |0,_,_,_,_=>(4,[])
 |f+1,s,b,most,out=>
  if s=[45,45,13,10]then (0,out)
  else if Lib.hasPrefix s nlL=false then (4,[])
  else match zkT (s.drop 2) b with
   |none=>(4,[])
   |some (a,r)=>if most<=(out.length:Int)then (2,[])else zgL f r b most (out++[a])
def zbn(s b:jE)(most:Int):Int × List zhm:=
 if zbT b=false then (1,[])else if 4096<s.length then (2,[])else if Lib.hasPrefix s (zbF b)=false then (4,[])else zgL (s.length+1) (s.drop (zbF b).length) b most []
theorem zzo{a p r:jE}{j:Nat}(h:j+p.length<=a.length):Lib.occAt (a++r) p j=Lib.occAt a p j:=by
 unfold Lib.occAt;rw[Z3 (by omega),Bool.eq_iff_iff,Zd,Zd];exact⟨λb=>List.prefix_of_prefix_length_le b (XC _ _) (by rw[QM];omega),λb=>b.trans (XC _ _)⟩
theorem zdZ{a p:jE}(h:∀j,j<=a.length->Lib.occAt a p j=false):Lib.contains a p=false:=by
 rcases Lib.index_spec a p with ⟨h1,_⟩|⟨i,_,h2,b,_⟩
 ·unfold Lib.contains;rw[h1];rfl
 ·rw[h i h2]at b;cases b
theorem zgJ{s p:jE}(h:(Lib.cut s p).2.2=true):s=(Lib.cut s p).1++p++(Lib.cut s p).2.1/\(p≠[]->Lib.contains (Lib.cut s p).1 p=false):=by
 unfold Lib.cut at h ⊢
 by_cases e:0<=Lib.index s p
 ·rw[Qg e]
  rcases Lib.index_spec s p with ⟨h1,_⟩|⟨i,h1,h2,a,g⟩
  ·omega
  ·rw[h1,Q8]
   have n:=Lib.occAt_room a;dsimp only;unfold Lib.occAt at a;rw[Zd]at a;obtain⟨z,c⟩:=a;refine⟨?_,λd=>?_⟩
   ·have l:s.drop (i+p.length)=z:=by rw[<-Zz,<-c,ZL]
    rw[l,QG,c,Zp]
   ·refine zdZ λj m=>?_
    rw[QJ]at m
    rcases ZI (s.take i).length (j+p.length)with hl|hl
    ·cases k:Lib.occAt (s.take i) p j with
     |false=>rfl
     |true=>
      rcases Lib.occAt_room k with b|b
      ·omega
      ·exact absurd b d
    ·have f:0<p.length:=ZJ.2 d
     have:=zzo (r:=s.drop i) hl;rw[Zp]at this;rw[<-this];rw[QJ]at hl;exact g j (by omega)
 ·rw[Qe e]at h;cases h
theorem zh1{b:jE}(h:zbT b=true):1<=b.length/\b.length<=70:=by
 unfold zbT at h;simp only[QU,QY]at h;exact h.2
theorem zxL(v:jE):Lib.trimPrefix (nlL++v) nlL=v:=by
 have h:Lib.hasPrefix (nlL++v) nlL=true:=by unfold Lib.hasPrefix;rw[Zd];exact XC _ _
 unfold Lib.trimPrefix;rw[Qg h,ZL]
theorem zd3{s p:jE}(h:(Lib.cut s p).2.2=true):(Lib.cut s p).2.1.length+p.length<=s.length:=by
 have:=Zi List.length (zgJ h).1;rw[Qa,Qa]at this;omega
theorem zlW:∀(f:Nat) {s r:jE},zhO f s=some r->r.length<=s.length
 |0,s,r,h=>by unfold zhO at h;cases h
 |f+1,s,r,h=>by
  unfold zhO at h;cases a:(Lib.cut s nlL).2.2 with
  |false=>rw[a,Qg rfl]at h;cases h
  |true=>
   rw[a,Qe (by decide)]at h;have h1:=zd3 a
   split at h
   ·injection h with h;subst h;omega
   ·have:=zlW f h;omega
theorem zwr{s r:jE}(h:zgt s=some r):r.length<=s.length:=zlW _ h
theorem zrR{s b:jE}{a:zhm}{r:jE}(hb:zbT b=true)(h:zkT s b=some (a,r)):badP b a=false/\r.length<s.length:=by
 unfold zkT at h;cases d:zpf s with
 |false=>rw[d,Qg rfl]at h;cases h
 |true=>
  rw[d,Qe (by decide)]at h;cases l:zgt (Lib.cut s nlL).2.1 with
  |none=>rw[l]at h;cases h
  |some g=>
   rw[l]at h;dsimp only at h;cases m:(Lib.cut (nlL++g) (nlL++zbF b)).2.2 with
   |false=>rw[m,Qg rfl]at h;cases h
   |true=>
    rw[m,Qe (by decide)]at h;injection h with h
    injection h with h1 h2
    unfold zpf at d;simp only[QU,Bool.not_eq_true']at d;obtain⟨⟨⟨p,D⟩,y⟩,w⟩:=d;obtain⟨o,k⟩:=zgJ m;have k:=k (by unfold nlL;simp);obtain⟨x,B⟩:=zh1 hb;have i:(nlL++zbF b).length=b.length+4:=by unfold nlL zbF;simp
    subst h1;subst h2
    refine⟨?_,?_⟩
    ·unfold badP
     rw[XH];refine⟨w,?_⟩;show Lib.contains (nlL++Lib.trimPrefix (Lib.cut (nlL++g) (nlL++zbF b)).1 nlL) (nlL++zbF b)=false
     generalize (Lib.cut (nlL++g) (nlL++zbF b)).1=V at *;cases f:Lib.hasPrefix V nlL with
     |true=>
      have c:=f;unfold Lib.hasPrefix at c;rw[Zd]at c;obtain⟨z,rfl⟩:=c;rw[zxL];exact k
     |false=>
      have v:Lib.trimPrefix V nlL=V:=by unfold Lib.trimPrefix;rw[f,Qe (by decide)]
      rw[v]
      have q:V.length<2:=by
       rcases ZI V.length 2 with h|h
       ·exact h
       ·exfalso
        have u:nlL <+:V:=by
         have n:nlL <+:(V++(nlL++zbF b)++(Lib.cut (nlL++g) (nlL++zbF b)).2.1):=by rw[<-o];exact XC _ _
         rw[QG]at n;exact List.prefix_of_prefix_length_le n (XC _ _) h
        unfold Lib.hasPrefix at f;rw[Zd.2 u]at f;cases f
      refine zdZ λj _=>?_
      cases t:Lib.occAt (nlL++V) (nlL++zbF b) j with
      |false=>rfl
      |true=>
       exfalso
       rcases Lib.occAt_room t with e|e
       ·rw[i,Qa]at e
        have:nlL.length=2:=rfl;omega
       ·rw[e]at i;simp at i
    ·have e:=Zi List.length o
     rw[Qa,Qa,Qa,i]at e;have C:=zwr l;have A:=zd3 p;have:nlL.length=2:=rfl;omega
def zeu:jE:=[39,43,95,45,46]
theorem zwB{b:UInt8}{c i:Int}(a:c=(b|||32).toNat)(d:i=Lib.indexByte zeu b)(h:(97<=c/\c<=122)\/(48<=(b.toNat:Int)/\(b.toNat:Int)<=57)\/0<=i):bndB b=true:=by
 subst d;subst a
 unfold bndB letB zeu at *;simp only[Xo,QU,QY];omega
theorem zyY{b:UInt8}{c i:Int}(a:c=(b|||32).toNat)(d:i=Lib.indexByte zeu b)(h:¬((97<=c/\c<=122)\/(48<=(b.toNat:Int)/\(b.toNat:Int)<=57)\/0<=i)):bndB b=false:=by
 subst d;subst a
 unfold bndB letB zeu at *;simp only[XH,Bool.and_eq_false_iff,decide_eq_false_iff_not];omega
def zws(s:ByteArray)(i:Value):Prop:=∃k:Nat,k<=s.size/\i=jA k/\s.data.toList.all bndB=(s.data.toList.drop k).all bndB
theorem zlq(s:ByteArray)(w:World)(u:s.size<=maxLen):
 Calls prog 113 #[.string s] w λe w'=>e=jC (.bool (zbT s.data.toList))/\w'=w:=by
 unfold maxLen at u;have m:Hid (s.data.toList.length=s.size):=by unfold Hid;simp
 go_in
 go_wp2_with fail
 go_loop [8] (λi=>zws s i) (λi=>s.size-(intOf i).toNat)
 case atStart=>exact⟨0,Qm _,rfl,rfl⟩
 case round=>
  obtain⟨k,x,rfl,n⟩:=hrel;have a:=hIx n;clear n
  by_cases d:k<s.size
  ·have j:=hIx (zaH s k d)
   have q:=s[k].toNat_lt;obtain⟨c,g⟩:∃c:Int,c=(s[k]|||32).toNat:=⟨_,rfl⟩
   have t:bits BinOp.or IntKind.u8 (s[k].toNat:Int) 32=c:=by
    rw[g,UInt8.toNat_or];exact u8_or_nat _ _ s[k].toNat_lt (by decide)
   have h:=hIx g;clear g;obtain⟨o,p⟩:∃o:Int,o=Lib.indexByte zeu s[k]:=⟨_,rfl⟩
   have b:=hIx p;clear p;go_wp2_with (go_at_call 122;refine(strings_IndexByte _ _ _).mono ?_;rintro e w' ⟨rfl,rfl⟩;rw[zeg,show (ByteArray.mk #[39,43,95,45,46]).data.toList=zeu from rfl,<-b.out])
   all_goals first
    |(
     go_ret
     exact⟨zaK (by unfold zbT;rw[a.out,j.out,ZR,zyY h.out b.out (by omega)];rfl),rfl⟩)
    |(
     try simp only[Bool.not_eq_eq_eq_not,Bool.not_false,QY]at *
     exact⟨⟨k+1,by omega,by go_num,by rw[a.out,j.out,ZR,zwB h.out b.out (by omega)];rfl⟩,by simp[intOf];omega⟩)
    |(
     go_round
     case rel=>exact⟨k+1,by omega,by go_num,by rw[a.out,j.out,ZR,zwB h.out b.out (by omega)];rfl⟩
     case measure=>simp[intOf] <;> omega)
  ·have v:Hid (s.data.toList.all bndB=true):=by
    unfold Hid;rw[a.out,QN (by rw[m.out];omega)];rfl
   have f:Hid (zbT s.data.toList=(decide (1<=s.size)&&decide (s.size<=70))):=by
    unfold Hid zbT;rw[v.out,m.out];rfl
   by_cases h1:1<=s.size
   ·by_cases h2:s.size<=70
    ·have l:decide ((1:Int)<=(s.size:Int))=true:=by simp;omega
     have r:decide ((s.size:Int)<=70)=true:=by simp;omega
     go_wp2;go_ret;exact⟨zaK (by rw[f.out,Qu h1,Qu h2];rfl),rfl⟩
    ·have l:decide ((1:Int)<=(s.size:Int))=true:=by simp;omega
     have r:decide ((s.size:Int)<=70)=false:=by simp;omega
     go_wp2;go_ret;exact⟨zaK (by rw[f.out,Qu h1,Qq h2];rfl),rfl⟩
   ·have l:decide ((1:Int)<=(s.size:Int))=false:=by simp;omega
    go_wp2;go_ret;exact⟨zaK (by rw[f.out,Qq h1];rfl),rfl⟩
theorem zmU(s p:ByteArray)(w:World)(o:s.size<=maxLen):
 Calls prog 112 #[.string s,.string p] w λe w'=>e=jC (.tuple #[.string (bs (za2 s.data.toList p.data.toList).1),.bool (za2 s.data.toList p.data.toList).2])/\w w':=by
 unfold maxLen at o;have j:s.data.toList.length=s.size:=by simp
 have g:p.data.toList.length=p.size:=by simp
 by_cases l:s.size<p.size
 ·have n:decide ((s.size:Int)<(p.size:Int))=true:=by simp;omega
  have f:Hid (za2 s.data.toList p.data.toList=(s.data.toList,false)):=by unfold Hid za2;rw[Qg (.inl (by omega))]
  rw[f.out];dsimp only;rw[zc1]
  go_in
  go_wp2;exact Qi (v:=.tuple #[.string s,.bool false]) (by simp[results,results112,go_sem]) rfl ⟨rfl,Qj _ _⟩
 ·have n:decide ((s.size:Int)<(p.size:Int))=false:=by simp;omega
  have q:(p.size:Int)<=(s.size:Int):=by omega
  have c:(s.extract 0 p.size).data.toList=s.data.toList.take p.size:=by rw[ZK];simp
  have b:=hIx (zbd (s.extract 0 p.size) w (by unfold maxLen;rw[Z0];omega));have d:s.extract p.size s.size=bs (s.data.toList.drop p.size):=zgO (Lib.extract_to_end s p.size);rw[c]at b;have i:=hIx d
  by_cases a:zay (s.data.toList.take p.size)=p.data.toList
  ·have f:Hid (za2 s.data.toList p.data.toList=(s.data.toList.drop p.size,true)):=by
    unfold Hid za2;rw[g,Qe];rintro(h|h)
    ·omega
    ·exact h a
   rw[f.out];dsimp only;rw[<-i.out];have m:((bs (zay (s.data.toList.take p.size))).toList==p.toList)=true:=by rw[zge,a,QP];simp
   generalize bs (zay (s.data.toList.take p.size))=X at *;clear a c d j g
   go_in
   go_wp2_with fail;refine b.out.mono ?_;rintro e k ⟨rfl,hb⟩;go_wp2;exact Qi (v:=.tuple #[.string (s.extract p.size s.size),.bool true]) (by simp[results,results112,go_sem]) rfl ⟨rfl,hb⟩
  ·have f:Hid (za2 s.data.toList p.data.toList=(s.data.toList,false)):=by
    unfold Hid za2;rw[g,Qg (.inr a)]
   rw[f.out];dsimp only;rw[zc1];have m:((bs (zay (s.data.toList.take p.size))).toList==p.toList)=false:=by rw[zge,QP];exact Qb.2 a
   generalize bs (zay (s.data.toList.take p.size))=X at *;clear a c d j g
   go_in
   go_wp2_with fail;refine b.out.mono ?_;rintro e k ⟨rfl,hb⟩;go_wp2;exact Qi (v:=.tuple #[.string s,.bool false]) (by simp[results,results112,go_sem]) rfl ⟨rfl,hb⟩
def mfL:jE:=[109,117,108,116,105,112,97,114,116,47,102,111,114,109,45,100,97,116,97]
def bdL:jE:=[98,111,117,110,100,97,114,121,61]
def unqR(b:jE):jE:=if 2<=b.length/\b[0]? = some 34/\b[b.length-1]? = some 34 then (b.drop 1).take (b.length-2)else b
def bdyR(v:jE):jE × Bool:=
 if zay (Lib.cut v [59]).1≠mfL\/(za2 (zaG (Lib.cut v [59]).2.1) bdL).2=false then ([],false)
 else if zbT (unqR (za2 (zaG (Lib.cut v [59]).2.1) bdL).1)=false then ([],false)else (unqR (za2 (zaG (Lib.cut v [59]).2.1) bdL).1,true)
theorem zwd(s:ByteArray)(i:Nat)(h:i<s.size)(x:UInt8):(s.data.toList[i]? = some x)=((s[i].toNat:Int)=(x.toNat:Int)):=by
 rw[Xt s i h,propext_iff]
 constructor
 ·intro e;rw[QD e]
 ·intro e;rw[Lib.byte_eq_of_toNat e]
theorem zhN(s d:ByteArray)(W:World)(h:s.size<4294967281)(hl:LibOk W){a b:jE}{c:Bool}(i:Lib.cut s.data.toList d.data.toList=(a,b,c)):
 Calls prog 78 #[.string s,.string d] W λe w'=>e=jC (.tuple #[.string (bs a),.string (bs b),.bool c])/\W w':=by
 obtain⟨g,f⟩:=hl;refine(strings_Cut s d g W h f).mono ?_;rintro e w' ⟨rfl,n,rfl⟩;rw[i];exact⟨rfl,below_drewN (Qj _ _) n⟩
theorem zx9{v b a:jE}{d:Bool}(c:Lib.cut v [59]=(b,a,d)):bdyR v=if zay b≠mfL\/(za2 (zaG a) bdL).2=false then ([],false)
 else if zbT (unqR (za2 (zaG a) bdL).1)=false then ([],false)else (unqR (za2 (zaG a) bdL).1,true):=by
 unfold bdyR;rw[c]
theorem zhL(l:jE):(zaG l).length<=l.length:=by
 unfold zaG zc0;rw[List.length_reverse];refine Ql (XR _).length_le ?_;rw[List.length_reverse];exact(XR _).length_le
theorem zmC(s p:jE):(za2 s p).1.length<=s.length:=by
 unfold za2
 split
 ·exact Qc _
 ·show (s.drop _).length<=_;rw[QM];omega
theorem zl0(v:ByteArray)(w:World)(hv:v.size<4294967281)(y:LibOk w):
 Calls prog 81 #[.string v] w λe w'=>e=jC (.tuple #[.string (bs (bdyR v.data.toList).1),.bool (bdyR v.data.toList).2])/\w w':=by
 obtain⟨G,t,cc,Q⟩:∃a b c,Lib.cut v.data.toList (ByteArray.mk #[59]).data.toList=(a,b,c):=⟨_,_,_,rfl⟩
 have A:=hIx (zhN v (ByteArray.mk #[59]) w hv y Q);have S:(ByteArray.mk #[59]).data.toList=[59]:=rfl;rw[S]at Q;obtain⟨l1,Y⟩:=zcM v.data.toList [59];have h0:v.data.toList.length=v.size:=by simp
 have u:=hIx (zx9 Q);generalize bdyR v.data.toList=R at *;rw[Q]at l1 Y;dsimp only at l1 Y
 have P:Hid (∀W,Calls prog 80 #[.string (bs t)] W λe w'=>e=jC (.string (bs (zaG t)))/\w'=W):=λW=>by
  have:=zdE (bs t) W (by rw[zae];unfold maxLen;omega);rw[zah]at this;exact this
 have h3:=zhL t
 have L:Hid (∀W,Calls prog 64 #[.string (bs G)] W (zbJ (bs (zay G)) W)):=λW=>by
  have:=zbd (bs G) W (by rw[zae];unfold maxLen;omega);rw[zah]at this;exact this
 have E:∀W,Calls prog 112 #[.string (bs (zaG t)),.string (.mk #[98,111,117,110,100,97,114,121,61])] W λe w'=>e=jC (.tuple #[.string (bs (za2 (zaG t) bdL).1),.bool (za2 (zaG t) bdL).2])/\W w':=λW=>by
  have:=zmU (bs (zaG t)) (ByteArray.mk #[98,111,117,110,100,97,114,121,61]) W (by rw[zae];unfold maxLen;omega);have eb:(ByteArray.mk #[98,111,117,110,100,97,114,121,61]).data.toList=bdL:=rfl;rw[zah,eb]at this;exact this
 have J:=zmC (zaG t) bdL;generalize za2 (zaG t) bdL=F at *;obtain⟨d,fo⟩:=F;dsimp only at u E J;have I:=hIx E
 have x:Hid (∀(l:jE) W,l.length<=v.size->Calls prog 113 #[.string (bs l)] W λe w'=>e=jC (.bool (zbT l))/\w'=W):=λl W h=>by
  have:=zlq (bs l) W (by rw[zae];unfold maxLen;omega);rw[zah]at this;exact this
 have C:d.length<=v.size:=by omega
 generalize zaG t=tb at *;generalize hX:bs (zay G)=X at *
 have q1:((X.toList==[109,117,108,116,105,112,97,114,116,47,102,111,114,109,45,100,97,116,97])=true)=(zay G=mfL):=by
  rw[<-hX,zge,Zo];rfl
 have H:=hIx q1;clear E Q S hX q1 h3 J l1 Y h0 y
 go_in
 go_wp2_with (go_at_call 78;apply Hid.out);refine WhM A ?_;rintro e w1 ⟨rfl,V⟩;have D:=hIx V;clear V A;go_wp2_with (first|(go_at_call 80;refine(P.out _).mono ?_;rintro e z ⟨rfl,p⟩;rw[p])|(go_at_call 112;apply Hid.out));unfold Hid;refine(I.out w1).mono ?_;rintro e w2 ⟨rfl,N⟩;have B:=hIx (D.out.trans (N.mono D.out.size));clear N D I P;go_wp2_with (go_at_call 64;apply Hid.out);unfold Hid;refine(L.out w2).mono ?_;rintro e w3 ⟨rfl,O⟩;have k:=hIx (B.out.trans (O.mono B.out.size));clear O B L
 by_cases q:(X.toList==[109,117,108,116,105,112,97,114,116,47,102,111,114,109,45,100,97,116,97])=true
 ·have Z:Hid (zay G=mfL):=by rw[<-H.out];exact q
  cases fo with
  |false=>
   have j:Hid (R=([],false)):=by unfold Hid;rw[u.out,Qg (.inr rfl)]
   go_wp2;exact Qi (v:=.tuple #[.string (.mk #[]),.bool false]) (by simp[results,results81,go_sem]) rfl ⟨by rw[j.out];rfl,k.out⟩
  |true=>
   have j:Hid (R=if zbT (unqR d)=false then ([],false)else (unqR d,true)):=by
    unfold Hid;rw[u.out,Qe];rintro(h|h)
    ·exact h Z.out
    ·cases h
   have r:(bs d).size=d.length:=zae d;have s:(bs d).data.toList=d:=rfl;have T:Hid (unqR d=if 2<=d.length/\d[0]? = some 34/\d[d.length-1]? = some 34 then (d.drop 1).take (d.length-2)else d):=rfl;have m:∀i (h:i<(bs d).size),(d[i]? = some 34)=(((bs d)[i].toNat:Int)=34):=λi h=>zwd (bs d) i h 34
   by_cases c1:2<=d.length
   ·have d1:decide ((2:Int)<=(d.length:Int))=true:=by simp;omega
    have i1:(0:Int)<(d.length:Int):=by omega
    have i2:IntKind.i64.wrap ((d.length:Int)-1)=(d.length:Int)-1:=Qx _ (by omega);have i3:(0:Int)<=(d.length:Int)-1:=by omega
    have i4:(d.length:Int)-1<(d.length:Int):=by omega
    have i5:((d.length:Int)-1).toNat=d.length-1:=by omega
    have i6:(1:Int)<=(d.length:Int)-1:=by omega
    have i7:(d.length:Int)-1<=(d.length:Int):=by omega
    by_cases c2:d[0]? = some 34
    ·have q2:(((bs d)[0]'(by rw[r];omega)).toNat:Int)=34:=by rw[<-m];exact c2
     by_cases c3:d[d.length-1]? = some 34
     ·have q3:(((bs d)[d.length-1]'(by rw[r];omega)).toNat:Int)=34:=by rw[<-m];exact c3
      have o:Hid (unqR d=(d.drop 1).take (d.length-2)):=by unfold Hid;rw[T.out,Qg ⟨c1,c2,c3⟩]
      have h4:(bs d).extract 1 (d.length-1)=bs ((d.drop 1).take (d.length-2)):=zgO (by rw[ZK,s,show d.length-1-1=d.length-2 by omega]);have K:((d.drop 1).take (d.length-2)).length<=v.size:=by rw[QJ];omega
      rw[o.out]at j;obtain⟨U,hU⟩:∃U,(d.drop 1).take (d.length-2)=U:=⟨_,rfl⟩
      rw[hU]at j h4 K;clear hU o T;have f:=hIx (x.out (U) w3 K);clear m s;cases n:zbT (U)with
      |true=>
       rw[n]at f j;have g:Hid (R=(U,true)):=by unfold Hid;rw[j.out,Qe (by decide)]
       clear n;go_wp2_with (go_at_call 113;refine f.out.mono ?_;rintro e z ⟨rfl,p⟩;rw[p]);exact Qi (v:=.tuple #[.string (bs (U)),.bool true]) (by simp[results,results81,go_sem]) rfl ⟨by rw[g.out],k.out⟩
      |false=>
       rw[n]at f j;have g:Hid (R=([],false)):=by unfold Hid;rw[j.out,Qg rfl]
       clear n;go_wp2_with (go_at_call 113;refine f.out.mono ?_;rintro e z ⟨rfl,p⟩;rw[p]);exact Qi (v:=.tuple #[.string (.mk #[]),.bool false]) (by simp[results,results81,go_sem]) rfl ⟨by rw[g.out];rfl,k.out⟩
     ·have q3:((((bs d)[d.length-1]'(by rw[r];omega)).toNat:Int)==34)=false:=Qb.2 (by rw[<-m]at *;intro e;apply c3;rw[m _ (by rw[r];omega)];exact e)
      have o:Hid (unqR d=d):=by unfold Hid;rw[T.out,Qe (λh=>c3 h.2.2)]
      rw[o.out]at j;have f:=hIx (x.out (d) w3 C);clear m s;cases n:zbT (d)with
      |true=>
       rw[n]at f j;have g:Hid (R=(d,true)):=by unfold Hid;rw[j.out,Qe (by decide)]
       clear n;go_wp2_with (go_at_call 113;refine f.out.mono ?_;rintro e z ⟨rfl,p⟩;rw[p]);exact Qi (v:=.tuple #[.string (bs (d)),.bool true]) (by simp[results,results81,go_sem]) rfl ⟨by rw[g.out],k.out⟩
      |false=>
       rw[n]at f j;have g:Hid (R=([],false)):=by unfold Hid;rw[j.out,Qg rfl]
       clear n;go_wp2_with (go_at_call 113;refine f.out.mono ?_;rintro e z ⟨rfl,p⟩;rw[p]);exact Qi (v:=.tuple #[.string (.mk #[]),.bool false]) (by simp[results,results81,go_sem]) rfl ⟨by rw[g.out];rfl,k.out⟩
    ·have q2:((((bs d)[0]'(by rw[r];omega)).toNat:Int)==34)=false:=Qb.2 (by intro e;apply c2;rw[m _ (by rw[r];omega)];exact e)
     have o:Hid (unqR d=d):=by unfold Hid;rw[T.out,Qe (λh=>c2 h.2.1)]
     rw[o.out]at j;have f:=hIx (x.out (d) w3 C);clear m s;cases n:zbT (d)with
     |true=>
      rw[n]at f j;have g:Hid (R=(d,true)):=by unfold Hid;rw[j.out,Qe (by decide)]
      clear n;go_wp2_with (go_at_call 113;refine f.out.mono ?_;rintro e z ⟨rfl,p⟩;rw[p]);exact Qi (v:=.tuple #[.string (bs (d)),.bool true]) (by simp[results,results81,go_sem]) rfl ⟨by rw[g.out],k.out⟩
     |false=>
      rw[n]at f j;have g:Hid (R=([],false)):=by unfold Hid;rw[j.out,Qg rfl]
      clear n;go_wp2_with (go_at_call 113;refine f.out.mono ?_;rintro e z ⟨rfl,p⟩;rw[p]);exact Qi (v:=.tuple #[.string (.mk #[]),.bool false]) (by simp[results,results81,go_sem]) rfl ⟨by rw[g.out];rfl,k.out⟩
   ·have d1:decide ((2:Int)<=(d.length:Int))=false:=by simp;omega
    have o:Hid (unqR d=d):=by unfold Hid;rw[T.out,Qe (λh=>c1 h.1)]
    rw[o.out]at j;have f:=hIx (x.out (d) w3 C);clear m s;cases n:zbT (d)with
    |true=>
     rw[n]at f j;have g:Hid (R=(d,true)):=by unfold Hid;rw[j.out,Qe (by decide)]
     clear n;go_wp2_with (go_at_call 113;refine f.out.mono ?_;rintro e z ⟨rfl,p⟩;rw[p]);exact Qi (v:=.tuple #[.string (bs (d)),.bool true]) (by simp[results,results81,go_sem]) rfl ⟨by rw[g.out],k.out⟩
    |false=>
     rw[n]at f j;have g:Hid (R=([],false)):=by unfold Hid;rw[j.out,Qg rfl]
     clear n;go_wp2_with (go_at_call 113;refine f.out.mono ?_;rintro e z ⟨rfl,p⟩;rw[p]);exact Qi (v:=.tuple #[.string (.mk #[]),.bool false]) (by simp[results,results81,go_sem]) rfl ⟨by rw[g.out];rfl,k.out⟩
 ·have h5:(X.toList==[109,117,108,116,105,112,97,114,116,47,102,111,114,109,45,100,97,116,97])=false:=by simpa using q
  have j:Hid (R=([],false)):=by unfold Hid;rw[u.out,Qg (.inl (λh=>q (by rw[H.out];exact h)))]
  clear q;go_wp2;exact Qi (v:=.tuple #[.string (.mk #[]),.bool false]) (by simp[results,results81,go_sem]) rfl ⟨by rw[j.out];rfl,k.out⟩
def ckP(x:jE):Pair:=(bs (Lib.cut x [61]).1,bs (Lib.cut x [61]).2.1)
def ckX(x:jE):List Pair:=if (zaG x).isEmpty then []else [ckP (zaG x)]
def ckL(s:jE):List Pair:=(splL 59 s).flatMap ckX
def zce(a:List ByteArray):List Pair:=a.flatMap λs=>ckL s.data.toList
theorem zqw(a:List ByteArray)(k:Nat)(h:k<a.length):zce (a.take (k+1))=zce (a.take k)++(splL 59 a[k].data.toList).flatMap ckX:=by
 unfold zce;rw[Qs h,Q6,QH,Xa,QE]
 rfl
theorem zvg(a:List jE)(j:Nat)(h:j<a.length):(a.take (j+1)).flatMap ckX=(a.take j).flatMap ckX++ckX a[j]:=by
 rw[Qs h,Q6,QH,Xa,QE]
theorem zy2(a:List jE)(j:Nat):((a.take j).flatMap ckX).length<=(a.flatMap ckX).length:=by
 have:(a.take j).flatMap ckX++(a.drop j).flatMap ckX=a.flatMap ckX:=by rw[<-Q6,Zp]
 rw[<-this,Qa];omega
theorem zoL(a:List ByteArray)(k:Nat):(zce (a.take k)).length<=(zce a).length:=by
 have:zce (a.take k)++zce (a.drop k)=zce a:=by unfold zce;rw[<-Q6,Zp]
 rw[<-this,Qa];omega
def zfx(most:Int)(a:List ByteArray)(w:World)(e:Ending)(w':World):Prop:=
 ((zce a).length<=most.toNat/\∃v,e=jC (.tuple #[v,jA 0])/\OwnA w' w.heap.size v (zce a)/\w w')\/(most.toNat<(zce a).length/\e=jC (.tuple #[jD 0 0,jA 2])/\w w')
def zrg(a:List ByteArray)(most:Int)(w:World)(v i:Value)(wr:World):Prop:=
 ∃k:Nat,k<=a.length/\i=jA k/\OwnA wr w.heap.size v (zce (a.take k))/\Hid ((zce (a.take k)).length<=most.toNat)/\w wr
def CkIn(a:List Pair)(qs:List jE)(b:List ByteArray)(c:Nat)(most:Int)(w:World)(v i:Value)(wr:World):Prop:=
 ∃j:Nat,j<=b.length/\i=jA j/\OwnA wr w.heap.size v (a++(qs.take j).flatMap ckX)/\Hid ((a++(qs.take j).flatMap ckX).length<=most.toNat)/\w wr/\wr.heap[c]? = some (.cells (b.map Value.string).toArray 9 (0,0))
theorem zni(d:List ByteArray)(A:Option Addr)(c:Nat)(most:Int)(w:World)(h:Sl w w.heap.size 1 A d.length (d.map Value.string))(hs:∀s∈d,s.size<=4194304)(hl:d.length<=4194304)(hm:most<=4194304)(S:LibOk w):
 Calls prog 51 #[.slice A d.length c,jA most] w (zfx most d w):=by
 have hH:Hid (∀W,w W->∀k (hk:k<d.length),∃b off,A=some ⟨b,off,none⟩/\W.cell? ⟨b,off+k,none⟩=some (.string d[k])):=λW hb k hk=>by
  obtain⟨b,off,e,hr,hc⟩:=h.src (by rw[Qh];omega);refine⟨b,off,e,(hb.cell hr).trans ?_⟩;rw[hc k (by rw[Qh];exact hk),Zm]
 have ha:Hid (∀W,w W->LibOk W):=λW hb=>S.below hb
 have HS:=hIx hs;clear h hs S
 go_in
 go_wp2
 go_loopw [6,16] (λv i wr=>zrg d most w v i wr) (λ_ i _=>d.length-(intOf i).toNat)
 case atStart=>exact⟨0,Qm _,rfl,OwnA.nil _ _,Qm _,Qj _ _⟩
 case round=>
  obtain⟨k,hk,rfl,u,a,z⟩:=hrel;have hg:=zoL d k;obtain⟨Ao,co,rfl,_⟩:=u.form
  by_cases h0:k<d.length
  ·have i7:IntKind.i64.wrap ((k:Int)+1)=(k:Int)+1:=Qx _ (by omega)
   have hq:decide ((k:Int)<(d.length:Int))=true:=by simp;omega
   obtain⟨b,off,rfl,x0⟩:=hH.out wr z k h0;obtain⟨m0,C⟩:=ha.out wr z;have hS:=HS.out d[k] (Qz h0);have N:=hIx (zqw d k h0);have E:=zoL d (k+1);generalize d[k]=X at *;have G:=strings_Split X ⟨#[59]⟩ m0 wr (by omega) C (by decide);have D:=zbZ 59 X;have O:=Xh ⟨#[59]⟩ (by decide) 0 _ X rfl;generalize Lib.splitB ⟨#[59]⟩ 0 (Lib.countB X ⟨#[59]⟩) X=q at G D O;generalize Lib.countB X ⟨#[59]⟩=n at G O;rw[<-O]at G;have hu:X.data.toList.length=X.size:=by simp
   have hD:(splL 59 X.data.toList).length=q.length:=by rw[<-D,Qh]
   have hd:Hid (∀p∈q,p.size<=4194304):=λp hp=>by
    have hm:p.data.toList∈splL 59 X.data.toList:=by rw[<-D];exact QR.2 ⟨p,hp,rfl⟩
    have h1:=zbV 59 X.data.toList _ hm;have h3:p.data.toList.length=p.size:=by simp
    omega
   have hT:q.length<=4194305:=by have:=zdK 59 X.data.toList;omega
   have h8:Hid (∀j (h:j<q.length) (h2:j<(splL 59 X.data.toList).length),q[j].data.toList=(splL 59 X.data.toList)[j]):=λj h h2=>by simp[<-D]
   have h9:=hIx G;clear G D O C hu;generalize splL 59 X.data.toList=qs at *;have U:Hid ((zce (d.take k)++qs.flatMap ckX).length<=(zce d).length):=by unfold Hid;rw[<-N.out];exact E
   have V:Hid (most.toNat<(zce (d.take k)++qs.flatMap ckX).length->most.toNat<(zce d).length):=λh=>Qv h U.out
   generalize hF:zce (d.take k)=l at *;have y:=hIx u;have o:=hIx z;clear u z hg E hF;go_wp2_with fail;refine h9.out.mono ?_;rintro e w3 ⟨rfl,h5⟩;have h4:wr w3:=by rw[h5];exact WaL
   have hf:w3.heap[wr.heap.size]? = some (.cells (q.map Value.string).toArray 9 (0,0)):=by rw[h5];exact Qt wr _
   have hL:Hid (CkIn l qs q wr.heap.size most w (.slice Ao l.length co) (jA 0) w3):=⟨0,Qm _,rfl,by simpa using y.out.below h4,by simpa using a,o.out.trans (h4.mono o.out.size),hf⟩
   have hU:=o.out.size;clear h5 h4 hf h9 y o a;obtain⟨wo,rfl⟩:∃wo:World,wo=wr:=⟨_,rfl⟩
   go_wp2
   go_loopw [6,23] (λv i wr=>CkIn l qs q wo.heap.size most w v i wr) (λ_ i _=>q.length-(intOf i).toNat)
   case atStart=>exact hL.out
   case round=>
    obtain⟨j,hj,rfl,u,a,z,m⟩:=hrel;obtain⟨Ai,ci,rfl,_⟩:=u.form
    have hv:wo.heap.size<wr.heap.size:=by
     rw[QV]at m;exact m.1
    have hC:=z.size
    by_cases I:j<q.length
    ·have dj:decide ((j:Int)<(q.length:Int))=true:=by simp;omega
     have i9:IntKind.i64.wrap ((j:Int)+1)=(j:Int)+1:=Qx _ (by omega)
     have y0:wr.cell? ⟨wo.heap.size,j,none⟩=some (.string q[j]):=by
      rw[Qf wr _ j _ _ _ m];simp[I]
     have hR:=hd.out q[j] (Qz I);have HX:=hIx (h8.out j I (by omega));have P:=hIx (zvg qs j (by omega));have T:=zy2 qs (j+1);rw[<-HX.out]at P;generalize q[j]=p at *;have hz:p.data.toList.length=p.size:=by simp
     have hG:=zhL p.data.toList;have h6:Hid (∀W,Calls prog 80 #[.string p] W λe w'=>e=jC (.string (bs (zaG p.data.toList)))/\w'=W):=λW=>zdE p W (by unfold maxLen;omega)
     have K:Hid (ckX p.data.toList=if (zaG p.data.toList).isEmpty then []else [ckP (zaG p.data.toList)]):=rfl;have hn:(zaG p.data.toList).length<=4194304:=by omega
     have t:(bs (zaG p.data.toList)).data.toList=zaG p.data.toList:=zah _;generalize zaG p.data.toList=J at *;generalize hQ:bs J=Q at *;have hN:Q.size<=4194304:=by rw[<-hQ,zae];exact hn
     have ht:(l++(qs.take j).flatMap ckX).length<=4194304:=by have:=a.out;omega
     have L:Hid (J.isEmpty=false->most<=((l++(qs.take j).flatMap ckX).length:Int)->most.toNat<(zce d).length):=λB hE=>V.out (by
      rw[Qa]at hE ⊢;rw[P.out,K.out,Qe (by rw[B];decide),Qa,QC]at T;omega)
     generalize Z:l++(qs.take j).flatMap ckX=f at *;have H:Hid (l++(qs.take (j+1)).flatMap ckX=f++ckX p.data.toList):=by unfold Hid;rw[P.out,<-Z,QG]
     have y:=hIx u;have o:=hIx z;have F:=hIx m;clear u z m T hz hG hQ Z P HX;cases B:J.isEmpty with
     |true=>
      have qx:Q.toList.isEmpty=true:=by rw[QP,t];exact B
      have hJ:(Q.toList==[])=true:=by rw[QP,t];cases J with|nil=>rfl|cons _ _=>cases B
      have x:Hid (l++(qs.take (j+1)).flatMap ckX=f):=by unfold Hid;rw[H.out,K.out,Qg B,QE]
      clear B L t;go_wp2_with fail;refine(h6.out wr).mono ?_;rintro e w4 ⟨rfl,r⟩;rw[r];clear r;go_wp2;exact⟨⟨j+1,by omega,rfl,by rw[x.out];exact y.out,by rw[x.out];exact a,o.out,F.out⟩,by dsimp only[intOf];omega⟩
     |false=>
      have qx:Q.toList.isEmpty=false:=by rw[QP,t];exact B
      have hJ:(Q.toList==[])=false:=by rw[QP,t];cases J with|nil=>cases B|cons _ _=>rfl
      by_cases g:most<=(f.length:Int)
      ·have d2:decide (most<=(f.length:Int))=true:=Qu g
       have HP:Hid (zfx most d w (jC (.tuple #[jD 0 0,jA 2])) wr):=.inr ⟨L.out B g,rfl,o.out⟩;clear B g L t;go_wp2_with fail;refine(h6.out wr).mono ?_;rintro e w4 ⟨rfl,r⟩;rw[r];clear r;go_wp2;exact Qi (v:=.tuple #[jD 0 0,jA 2]) (by simp[results,results51,go_sem]) rfl HP.out
      ·have d2:decide (most<=(f.length:Int))=false:=Qq g
       have hw:Hid (f.length+1<=most.toNat):=by unfold Hid;omega
       have x:Hid (l++(qs.take (j+1)).flatMap ckX=f++[ckP J]):=by unfold Hid;rw[H.out,K.out,Qe (by rw[B];decide)]
       obtain⟨m0,C⟩:=ha.out wr o.out;have hcut:=strings_Cut Q ⟨#[61]⟩ m0 wr (by omega) C;rw[t]at hcut;have h7:ckP J=(bs (Lib.cut J [61]).1,bs (Lib.cut J [61]).2.1):=rfl;have hi:(⟨#[61]⟩:ByteArray).data.toList=[61]:=rfl;rw[hi]at hcut;rw[h7]at x;generalize Lib.cut J [61]=CT at *;have hK:=hIx hcut;clear B g L t hcut C h7 hi K H;go_wp2_with fail;refine(h6.out wr).mono ?_;rintro e w4 ⟨rfl,r⟩;rw[r];clear r;go_wp2_with fail;refine hK.out.mono ?_;rintro e w5 ⟨rfl,nq,rfl⟩;have ho:OwnA (wr.drewN nq) w.heap.size (.slice Ai f.length ci) f:=y.out;have hx:w.heap.size<=(wr.drewN nq).heap.size:=hC;have Y:(Value.slice Ai f.length ci).ownBlock≠some wo.heap.size:=zbx y.out F.out (by decide);have hh:=hIx Y;clear Y;go_wp2_with (at_builtin;refine zaZ rfl (.tmp 41) (.tmp 45) rfl w.heap.size (.slice Ai f.length ci) f rfl (by exact ho) (by exact hx) _ (bs CT.1,bs CT.2.1) rfl (wr.drewN nq).heap.size rfl 1 rfl (by exact ht) ?_;intro v5 w6 hI hA hy hP);exact⟨⟨j+1,by omega,rfl,by rw[x.out];exact hI,by rw[x.out,Qa];exact hw.out,o.out.trans (zfi hA),(hy _ hv hh.out).trans F.out⟩,by dsimp only[intOf];omega⟩
    ·obtain rfl:j=q.length:=by omega
     have dj:decide ((q.length:Int)<(q.length:Int))=false:=by simp
     have e1:qs.take q.length=qs:=by rw[<-hD,QZ]
     rw[e1]at u a;have HN:Hid (zrg d most w (.slice Ai (l++qs.flatMap ckX).length ci) (jA ((k:Int)+1)) wr):=⟨k+1,by omega,rfl,by rw[N.out];exact u,by rw[N.out];exact a,z⟩
     rw[e1];clear u a z m e1 N U V h8 hd;go_wp2;exact⟨HN.out,by dsimp only[intOf];omega⟩
  ·obtain rfl:k=d.length:=by omega
   have hq:decide ((d.length:Int)<(d.length:Int))=false:=by simp
   rw[QZ]at u a ⊢;have HP:Hid (zfx most d w (jC (.tuple #[.slice Ao (zce d).length co,jA 0])) wr):=.inl ⟨a.out,_,rfl,u,z⟩;clear u a z hg;generalize zce d=CV at *;go_wp2_with fail;refine Qi (v:=.tuple #[.slice Ao CV.length co,jA 0]) (by simp[results,results51,go_sem]) rfl HP.out
def zrw(a:ByteArray)(f:ByteArray × ByteArray):Bool:=zay f.1.data.toList==zay a.data.toList
def getL(b:List (ByteArray × ByteArray))(a:ByteArray):List ByteArray:=(b.filter (zrw a)).map (·.2)
theorem zt8(b:List (ByteArray × ByteArray))(a:ByteArray)(k:Nat)(h:k<b.length):getL (b.take (k+1)) a=getL (b.take k) a++if zrw a b[k]=true then [b[k].2]else []:=by
 unfold getL;rw[Qs h,ZW,Q2]
 by_cases c:zrw a b[k]=true <;> simp[c]
theorem zpa(b:List (ByteArray × ByteArray))(a:ByteArray)(k:Nat):(getL (b.take k) a).length<=k:=by
 unfold getL;rw[Qh];exact Ql (Zn _ _) (ZS _ _)
theorem zfo(b:List (ByteArray × ByteArray))(a:ByteArray):(getL b a).length<=b.length:=by
 have:=zpa b a b.length;rw[QZ]at this;exact this
theorem zjI{b:List (ByteArray × ByteArray)}{a:ByteArray}(h:∀f∈b,f.2.size<=maxLen):∀x∈getL b a,x.size<=maxLen:=λx d=>by
 obtain⟨f,c,rfl⟩:=QR.1 d;exact h f (ZE.1 c).1
def zze(w:World)(b:List (ByteArray × ByteArray))(a:ByteArray)(v i:Value)(wr:World):Prop:=
 ∃k:Nat,k<=b.length/\i=jA k/\OwnS wr w.heap.size v (getL (b.take k) a)/\w wr
def zgk(l:List ByteArray)(w:World)(e:Ending)(w':World):Prop:=∃v,e=jC v/\OwnS w' w.heap.size v l/\w w'
theorem zhF(m t:ByteArray)(A:Option Addr)(n c:Nat)(d:List (ByteArray × ByteArray))(a:ByteArray)(w:World)(F:n=d.length)(z:Sl w w.heap.size 2 A n (zdS d))
 (x:∀f∈d,f.1.size<=maxLen) (p:a.size<=maxLen) (hl:d.length<=4398046511104):
 Calls prog 52 #[.agg #[.string m,.string t,.slice A n c],.string a] w (zgk (getL d a) w):=by
 subst F
 go_in
 go_wp2
 go_loopw [5,11] (λv i wr=>zze w d a v i wr) (λ_ i _=>d.length-(intOf i).toNat)
 case atStart=>exact⟨0,Qm _,rfl,OwnS.nil _ _,WaL⟩
 case round=>
  obtain⟨k,K,rfl,g,hb⟩:=hrel
  by_cases l:k<d.length
  ·obtain⟨b,off,rfl,G,I,E⟩:=(z.below hb).field l
   have L:=hIx x;have D:=x _ (Qz l);clear x z;go_wp2_with fail;refine(zbd _ _ D).mono ?_;rintro e J ⟨rfl,r⟩;go_wp2_with fail;refine(zbd _ _ p).mono ?_;rintro e w2 ⟨rfl,s⟩;have j:=r.trans (s.mono r.size);have N:=zao j 1;have h:=g.later j;have q:=hb.trans (zaI j hb.size);have C:=q.size;have y:=hIx (zt8 d a k l);have H:=zpa d a k;clear g r s j;go_wp2_with (at_builtin;refine zbz rfl _ _ rfl w.heap.size _ (getL (d.take k) a) rfl (by exact h) (by exact C) [.string d[k].2] [d[k].2] rfl 1 1 rfl rfl (by omega) ?_;intro v' w3 o u _ B)
   ·have h1:zrw a d[k]=true:=by assumption
    go_roundw
    case rel=>exact⟨k+1,by omega,by go_num,by rw[y.out,Qg h1];exact o,q.trans u⟩
    case measure=>simp[intOf] <;> omega
   ·have h1:zrw a d[k]=false:=by assumption
    go_roundw
    case rel=>exact⟨k+1,by omega,by go_num,by rw[y.out,h1];simpa using h,q⟩
    case measure=>simp[intOf] <;> omega
  ·obtain rfl:k=d.length:=by omega
   go_wp2;go_ret;exact⟨_,rfl,by rw[QZ]at g;exact g,hb⟩
