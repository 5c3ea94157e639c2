/- Lemmas for the last texts. -/
import Derived.Test.YtnnokglddolglaaGreatDoorM23
set_option maxHeartbeats 3200000
set_option maxRecDepth 100000
namespace Go.Proofs.YtnnokglddolglaaGreatDoor
open Go.RowKit Go.Proofs.Tryz
def zyU(s:ByteArray)(w:World)(v n b i:Value)(wr:World):Prop:=
 ∃(k m c:Nat) (a:jE),k<=s.size/\i=jA k/\n=.int .u32 m/\b=jA c/\(c=0/\m=0\/c=2/\m<4\/c=4/\m<16\/c=6/\m<64)/\a.length<=k/\OwnB wr w.heap.size v a/\
  zb7 0 0 s.data.toList=(zb7 m c (s.data.toList.drop k)).map (a++·)/\w wr
theorem zwX(m k:Nat)(a:m<64)(b:k<64):bits .or .u32 ((m:Int)*64) (k:Int)=((m*64+k:Nat):Int):=by
 rw[zzh _ _ 6 (by omega) (by omega) (by omega) (by omega) (by omega) (by omega)];omega
theorem ziI(M i:Nat)(h:M<4294967296)(a:i<=32):bits .and .u32 (M:Int) (2 ^ i-1)=((M % 2 ^ i:Nat):Int):=by
 rw[bits_mask .u32 32 (by decide) (λn b h1=>by rw[IntKind.wrap_u32];omega) i a (M:Int) (by omega) (by omega)];simp
theorem zlT(t:ByteArray)(W:World)(h:t.size<=140737488351232):Calls prog 237 #[.string t,.string (.mk #[61])] W λe w'=>e=jC (.string (bs (zdD t.data.toList)))/\w'=W:=
 strings_TrimSuffix t (ByteArray.mk #[61]) W (by omega)
theorem zgV(s:ByteArray)(w:World)(hs:s.size<=140737488351232):
 Calls prog 193 #[.string s] w (zeO (zj4 4 (b64D s.data.toList)) w):=by
 have V:s.data.toList.length=s.size:=by simp
 by_cases h4:s.size % 4=0
 ·have q4:((s.size:Int) % 4 != 0)=false:=by rw[show (s.size:Int) % 4=0 by omega];rfl
  have W:Hid (b64D s.data.toList=zb7 0 0 (zdD (zdD s.data.toList))):=by unfold Hid b64D;rw[Qe (by omega)]
  have z1:(bs (zdD s.data.toList)).size<=s.size:=by
   rw[zae];rcases zh6 s.data.toList with ⟨e,-⟩|e
   ·rw[e];omega
   ·have:=Zi List.length e;rw[Qa]at this;omega
  have z2:(bs (zdD (zdD s.data.toList))).size<=s.size:=by
   rw[zae]at z1 ⊢;rcases zh6 (zdD s.data.toList)with ⟨e,-⟩|e
   ·rw[e];omega
   ·have:=Zi List.length e;rw[Qa]at this;omega
  clear V h4
  go_in
  go_wp2_with fail;refine(zlT _ _ hs).mono ?_;rintro e T ⟨rfl,H⟩;have H:=H.symm;subst H;go_wp2_with fail;refine(zlT _ _ (by omega)).mono ?_;rintro e T ⟨rfl,H⟩;have H:=H.symm;subst H;rw[zah];obtain⟨z,Y⟩:∃z,bs (zdD (zdD s.data.toList))=z:=⟨_,rfl⟩
  rw[Y]at z2 ⊢;have E:Hid (b64D s.data.toList=zb7 0 0 z.data.toList):=by unfold Hid;rw[W.out,<-Y];rfl
  clear Y W z1;have V:Hid (z.data.toList.length=z.size):=by unfold Hid;simp
  go_wp2
  go_loopw [5,6,7,19] (λv n b i wr=>zyU z w v n b i wr) (λ_ _ _ i _=>z.size-(intOf i).toNat)
  case atStart=>exact⟨0,0,0,[],Qm _,rfl,rfl,rfl,.inl ⟨rfl,rfl⟩,Qc _,OwnB.nil _ _,by simp,Qj _ _⟩
  case round=>
   obtain⟨k,m,P,l,hk,rfl,rfl,rfl,F,h3,d,hr,g⟩:=hrel;have o:=g.size;have G:=hIx hr;clear hr
   by_cases X:k<z.size
   ·have q:=hIx (zaH z k X)
    have h0:(k:Int)<(z.size:Int):=by omega
    have O:=zxP z[k];obtain⟨x,Z⟩:∃x,idx z[k]=x:=⟨_,rfl⟩
    have U:=hIx (λ(h:idx z[k]<0) n b=>zx8 n b z[k] (z.data.toList.drop (k+1)) h);have A:=hIx (λ(h:¬idx z[k]<0) n=>zz5 n z[k] (z.data.toList.drop (k+1)) h);have C:=hIx (λ(h:¬idx z[k]<0) n=>zz2 n z[k] (z.data.toList.drop (k+1)) h);have B:=hIx (λ(h:¬idx z[k]<0) n=>zz3 n z[k] (z.data.toList.drop (k+1)) h);have u:=hIx (λ(h:¬idx z[k]<0) n=>zzM n z[k] (z.data.toList.drop (k+1)) h);rw[Z]at U A C B u O;obtain⟨x1,x2,-⟩:=O;have S:=hIx Z;clear Z
    by_cases c:x<0
    ·have f:=hIx (U.out c m P)
     clear U A C B u;go_wp2_with (go_at_call 122;refine(zaT _ _ _).mono ?_;rintro e w' ⟨rfl,rfl⟩;rw[show (Lib.indexByte (ByteArray.mk #[65,66,67,68,69,70,71,72,73,74,75,76,77,78,79,80,81,82,83,84,85,86,87,88,89,90,97,98,99,100,101,102,103,104,105,106,107,108,109,110,111,112,113,114,115,116,117,118,119,120,121,122,48,49,50,51,52,53,54,55,56,57,43,47]).data.toList z[k]=x)from S.out])
     go_ret2
     exact⟨by rw[E.out,G.out,q.out,f.out];rfl,g⟩
    ·obtain⟨y,rfl⟩:=Zt (Int.not_lt.1 c)
     rw[Q8]at A C B u;have A:=hIx (A.out c);have C:=hIx (C.out c);have B:=hIx (B.out c);have u:=hIx (u.out c);have hy:y<64:=by omega
     clear U c x1 x2;have N:=zwX m y (by omega) hy;obtain⟨M,hM⟩:∃M,m*64+y=M:=⟨_,rfl⟩
     rw[hM]at N
     rcases F with ⟨rfl,rfl⟩|⟨rfl,I⟩|⟨rfl,I⟩|⟨rfl,I⟩
     ·have f:=hIx (A.out 0)
      have h5:bits .or .u32 0 (y:Int)=y:=by have:=zwX 0 y (by omega) hy;simpa using this
      clear A C B u hM N;go_wp2_with (go_at_call 122;refine(zaT _ _ _).mono ?_;rintro e w' ⟨rfl,rfl⟩;rw[show (Lib.indexByte (ByteArray.mk #[65,66,67,68,69,70,71,72,73,74,75,76,77,78,79,80,81,82,83,84,85,86,87,88,89,90,97,98,99,100,101,102,103,104,105,106,107,108,109,110,111,112,113,114,115,116,117,118,119,120,121,122,48,49,50,51,52,53,54,55,56,57,43,47]).data.toList z[k]=y)from S.out]);exact⟨⟨k+1,y,6,l,by omega,by go_num,rfl,rfl,by omega,by omega,d,by rw[G.out,q.out,f.out,XP,Zh],g⟩,by simp[intOf];omega⟩
     ·have f:=hIx (C.out m)
      rw[hM]at f
      have r:Hid ([Value.int .u8 ((M:Int) % 256)]=[UInt8.ofNat (M)].map zdX):=by
       unfold Hid zdX;simp only[QW,Zu,UInt8.toNat_ofNat'];rfl
      have j:bits .and .u32 (M:Int) 0=((M % 1:Nat):Int):=ziI M 0 (by omega) (by omega);obtain⟨Q,p⟩:∃Q,M % 1=Q:=⟨_,rfl⟩
      have L:=hIx hM;rw[p]at j;have HQ:=hIx p;have K:Q<1:=by omega
      clear A C B u hM p;go_wp2_with (first|(go_at_call 122;refine(zaT _ _ _).mono ?_;rintro e w' ⟨rfl,rfl⟩;rw[show (Lib.indexByte (ByteArray.mk #[65,66,67,68,69,70,71,72,73,74,75,76,77,78,79,80,81,82,83,84,85,86,87,88,89,90,97,98,99,100,101,102,103,104,105,106,107,108,109,110,111,112,113,114,115,116,117,118,119,120,121,122,48,49,50,51,52,53,54,55,56,57,43,47]).data.toList z[k]=y)from S.out])|(at_builtin;refine zaf rfl _ _ rfl w.heap.size _ l rfl (by exact d) (by exact o) _ [UInt8.ofNat (M)] r.out 1 1 rfl rfl (by omega) ?_;intro v' T a t D));exact⟨⟨k+1,0,0,l++[UInt8.ofNat (M)],by omega,by go_num,by go_num,rfl,by omega,by simp;omega,a,by rw[G.out,q.out,f.out,Option.map_map];congr 1;funext y;simp,g.trans t⟩,by simp[intOf];omega⟩
     ·have f:=hIx (B.out m)
      rw[hM]at f
      have r:Hid ([Value.int .u8 ((M:Int) / 4 % 256)]=[UInt8.ofNat (M / 4)].map zdX):=by
       unfold Hid zdX;simp only[QW,Zu,UInt8.toNat_ofNat'];rfl
      have j:bits .and .u32 (M:Int) 3=((M % 4:Nat):Int):=ziI M 2 (by omega) (by omega);obtain⟨Q,p⟩:∃Q,M % 4=Q:=⟨_,rfl⟩
      have L:=hIx hM;rw[p]at j f;have HQ:=hIx p;have K:Q<4:=by omega
      clear A C B u hM p;go_wp2_with (first|(go_at_call 122;refine(zaT _ _ _).mono ?_;rintro e w' ⟨rfl,rfl⟩;rw[show (Lib.indexByte (ByteArray.mk #[65,66,67,68,69,70,71,72,73,74,75,76,77,78,79,80,81,82,83,84,85,86,87,88,89,90,97,98,99,100,101,102,103,104,105,106,107,108,109,110,111,112,113,114,115,116,117,118,119,120,121,122,48,49,50,51,52,53,54,55,56,57,43,47]).data.toList z[k]=y)from S.out])|(at_builtin;refine zaf rfl _ _ rfl w.heap.size _ l rfl (by exact d) (by exact o) _ [UInt8.ofNat (M / 4)] r.out 1 1 rfl rfl (by omega) ?_;intro v' T a t D));exact⟨⟨k+1,Q,2,l++[UInt8.ofNat (M / 4)],by omega,by go_num,rfl,rfl,by omega,by simp;omega,a,by rw[G.out,q.out,f.out,Option.map_map];congr 1;funext y;simp,g.trans t⟩,by simp[intOf];omega⟩
     ·have f:=hIx (u.out m)
      rw[hM]at f
      have r:Hid ([Value.int .u8 ((M:Int) / 16 % 256)]=[UInt8.ofNat (M / 16)].map zdX):=by
       unfold Hid zdX;simp only[QW,Zu,UInt8.toNat_ofNat'];rfl
      have j:bits .and .u32 (M:Int) 15=((M % 16:Nat):Int):=ziI M 4 (by omega) (by omega);obtain⟨Q,p⟩:∃Q,M % 16=Q:=⟨_,rfl⟩
      have L:=hIx hM;rw[p]at j f;have HQ:=hIx p;have K:Q<16:=by omega
      clear A C B u hM p;go_wp2_with (first|(go_at_call 122;refine(zaT _ _ _).mono ?_;rintro e w' ⟨rfl,rfl⟩;rw[show (Lib.indexByte (ByteArray.mk #[65,66,67,68,69,70,71,72,73,74,75,76,77,78,79,80,81,82,83,84,85,86,87,88,89,90,97,98,99,100,101,102,103,104,105,106,107,108,109,110,111,112,113,114,115,116,117,118,119,120,121,122,48,49,50,51,52,53,54,55,56,57,43,47]).data.toList z[k]=y)from S.out])|(at_builtin;refine zaf rfl _ _ rfl w.heap.size _ l rfl (by exact d) (by exact o) _ [UInt8.ofNat (M / 16)] r.out 1 1 rfl rfl (by omega) ?_;intro v' T a t D));exact⟨⟨k+1,Q,4,l++[UInt8.ofNat (M / 16)],by omega,by go_num,rfl,rfl,by omega,by simp;omega,a,by rw[G.out,q.out,f.out,Option.map_map];congr 1;funext y;simp,g.trans t⟩,by simp[intOf];omega⟩
   ·have HN:Hid (z.data.toList.drop k=[]):=QN (by rw[V.out];omega)
    have h6:=d.string;clear d
    by_cases I:m=0/\P≠6
    ·obtain⟨rfl,I⟩:=I
     have f:Hid (zb7 0 0 z.data.toList=some l):=by unfold Hid;rw[G.out,HN.out,zb7,Qe (by omega)];simp
     have qb:((P:Int)==6)=false:=Qb.2 (by omega);clear F;go_wp2
     go_ret2
     exact⟨by rw[E.out,f.out];rfl,g⟩
    ·have f:Hid (zb7 0 0 z.data.toList=none):=by unfold Hid;rw[G.out,HN.out,zb7,Qg (by omega)];rfl
     by_cases J:m=0
     have qm:((m:Int) != 0)=false:=by rw[J];rfl
     have qb:((P:Int)==6)=true:=by rw[show P=6 by omega];rfl
     rotate_left
     have qm:((m:Int) != 0)=true:=Q7.2 (by omega)
     all_goals
      clear I F J;go_wp2
      go_ret2
      exact⟨by rw[E.out,f.out];rfl,g⟩
 ·have q4:((s.size:Int) % 4 != 0)=true:=Q7.2 (by omega)
  have W:Hid (b64D s.data.toList=none):=by unfold Hid b64D;rw[Qg (by omega)]
  clear V h4
  go_in
  go_wp2
  go_ret2
  exact⟨by rw[W.out];rfl,Qj _ _⟩
def zc7(b:UInt8):Bool:=decide (9<=b.toNat)&&decide (b.toNat<=13)||b==32
def sqGo:Bool->jE->jE
 |_,[]=>[]
 |p,b::l=>if zc7 b=true then (if p=true then sqGo true l else 32::sqGo true l)else b::sqGo false l
def zb3(l:jE):jE:=sqGo false l
def outL(set l:jE):jE:=l.filter λb=>decide (Lib.indexByte set b<0)
def zbS(b:UInt8):UInt8:=if b=44\/b=59 then 32 else b
def dsL:jE->jE
 | []=>[]
 | [b]=>[b]
 |b::c::l=>if b=32/\(c=47\/c=40)then dsL (c::l)else b::dsL (c::l)
def zgE:jE:=[92,34,39,94]
def cmdL(l:jE):jE:=zay (dsL (zb3 ((outL zgE l).map zbS)))
def adj(R:UInt8->UInt8->Bool):jE->Bool
 |a::b::l=>R a b&&adj R (b::l)
 |_=>true
def n2(a b:UInt8):Bool:=!(a==32&&b==32)
def n3(a b:UInt8):Bool:=!(a==32&&(b==47||b==40))
def Good(l:jE):Prop:=(∀b∈l,zc7 b=true->b=32)/\adj n2 l=true
theorem zug{R:UInt8->UInt8->Bool}{a:UInt8}{l:jE}:adj R (a::l)=true↔(∀b,l.head? = some b->R a b=true)/\adj R l=true:=by
 cases l with
 |nil=>simp[adj]
 |cons b l=>simp[adj]
theorem zvR:Good []:=⟨λ_ h=>absurd h (by simp),rfl⟩
theorem zlY{a:UInt8}{l:jE}:Good (a::l)↔(zc7 a=true->a=32)/\(∀b,l.head? = some b->n2 a b=true)/\Good l:=by
 unfold Good;rw[zug];simp only[QI,forall_eq_or_imp];exact⟨λh=>⟨h.1.1,h.2.1,h.1.2,h.2.2⟩,λh=>⟨⟨h.1,h.2.2.1⟩,h.2.1,h.2.2.2⟩⟩
theorem zyA:zc7 32=true:=by decide
theorem zrd:∀(l:jE) (p:Bool),Good (sqGo p l)/\(p=true->(sqGo p l).head? ≠ some 32)
 | [],_=>⟨zvR,λ_=>by simp[sqGo]⟩
 |b::l,p=>by
  unfold sqGo
  by_cases a:zc7 b=true
  ·rw[Qg a]
   obtain⟨h1,h2⟩:=zrd l true
   by_cases d:p=true
   ·rw[Qg d];exact⟨h1,λ_=>h2 rfl⟩
   ·rw[Qe d]
    exact⟨zlY.2 ⟨λ_=>rfl,λc f=>by
     have:c≠32:=λe=>h2 rfl (by rw[f,e])
     simp[n2,this],h1⟩,λe=>absurd e d⟩
  ·rw[Qe a]
   have hb:b≠32:=λe=>a (by rw[e];exact zyA)
   exact⟨zlY.2 ⟨λe=>absurd e a,λc _=>by simp[n2,hb],(zrd l false).1⟩,λ_=>by simpa using hb⟩
theorem zyq{R:UInt8->UInt8->Bool}{f:UInt8->UInt8}(h:∀a b,R (f a) (f b)=R a b):∀l:jE,adj R (l.map f)=adj R l
 | []=>rfl
 | [a]=>rfl
 |a::b::l=>by
  have ih:=zyq h (b::l);simp only[QW]at ih;simp only[QW,adj,h,ih]
theorem zmb:∀(l:jE) (p:Bool),(sqGo p l).length<=l.length
 | [],_=>Qc _
 |b::l,p=>by
  have h1:=zmb l true;have h2:=zmb l false;unfold sqGo
  (repeat' split) <;> simp only[Qn] <;> omega
theorem zwF:∀l:jE,(dsL l).length<=l.length
 | []=>Qc _
 | [_]=>Qc _
 |a::c::l=>by
  have h:=zwF (c::l);unfold dsL
  split <;> simp only[Qn]at*<;> omega
theorem zft(b:UInt8)(w:World):
 Calls prog 239 #[.int .u8 b.toNat] w λe w'=>e=jC (.bool (zc7 b))/\w'=w:=by
 have hb:(b.toNat:Int)<=255:=by have:=b.toNat_lt;omega
 have a:(b==32)=decide (b.toNat=32):=by
  rw[Bool.eq_iff_iff,Zo,QY];exact⟨λh=>by rw[h];rfl,λh=>Zs.1 h⟩
 unfold zc7;rw[a];generalize b.toNat=n at *
 go_in
 go_wp2
 all_goals
  go_ret;refine⟨zaK ?_,rfl⟩;rw[Bool.eq_iff_iff];simp
  try omega
def zzU(s:ByteArray)(w:World)(v i:Value)(wr:World):Prop:=
 ∃(k:Nat) (a:jE) (p:Bool),k<=s.size/\i=jA k/\a.length<=k/\OwnB wr w.heap.size v a/\zb3 s.data.toList=a++sqGo p (s.data.toList.drop k)/\
  (k=0->p=false)/\(∀j (h:j<s.size),k=j+1->p=zc7 s[j])/\w wr
theorem ztM(p:Bool)(b:UInt8)(l:jE):sqGo p (b::l)=if zc7 b=true then (if p=true then sqGo true l else 32::sqGo true l)else b::sqGo false l:=rfl
theorem ziY(s:ByteArray)(w:World)(T:s.size<=140737488351232):
 Calls prog 196 #[.string s] w (zbJ (bs (zb3 s.data.toList)) w):=by
 have N:Hid (s.data.toList.length=s.size):=by unfold Hid;simp
 go_in
 go_wp2
 go_loopw [3,7] (λv i wr=>zzU s w v i wr) (λ_ i _=>s.size-(intOf i).toNat)
 case atStart=>exact⟨0,[],false,Qm _,rfl,Qc _,OwnB.nil _ _,rfl,λ_=>rfl,λj _ h=>absurd h (by omega),Qj _ _⟩
 case round=>
  obtain⟨k,g,p,S,rfl,I,c,J,t,o,l⟩:=hrel;have f:=l.size;have y:=hIx J;clear J
  by_cases E:k<s.size
  ·have C:=hIx (zaH s k E)
   have H:=hIx (ztM p s[k] (s.data.toList.drop (k+1)));cases u:zc7 s[k]with
   |false=>
    have A:=hIx u
    have a:Hid (∀i (h:i<s.size),k+1=i+1->zc7 s[k]=zc7 s[i]):=λi h e=>by
     have F:k=i:=by omega
     subst F;rfl
    rw[u]at a;have d:sqGo p (s[k]::s.data.toList.drop (k+1))=s[k]::sqGo false (s.data.toList.drop (k+1)):=by rw[H.out,u,Qe (by decide)]
    have z:=hIx d;clear u t o d;go_wp2_with (first|(go_at_call 239;refine(zft _ _).mono ?_;rintro e D ⟨rfl,rfl⟩;rw[A.out])|(at_builtin;refine zaf rfl _ _ rfl w.heap.size _ g rfl (by exact c) (by exact f) _ [s[k]] rfl 1 1 rfl rfl (by omega) ?_;intro v' w2 b m n));exact⟨⟨k+1,g++[s[k]],false,by omega,by go_num,by simp;omega,b,by rw[y.out,C.out,z.out];simp,λh=>absurd h (by omega),a.out,l.trans m⟩,by simp[intOf];omega⟩
   |true=>
    have A:=hIx u
    have a:Hid (∀i (h:i<s.size),k+1=i+1->zc7 s[k]=zc7 s[i]):=λi h e=>by
     have F:k=i:=by omega
     subst F;rfl
    rw[u]at a;have d:sqGo p (s[k]::s.data.toList.drop (k+1))=if p=true then sqGo true (s.data.toList.drop (k+1))else 32::sqGo true (s.data.toList.drop (k+1)):=by rw[H.out,u,Qg rfl]
    have z:=hIx d;clear u d
    by_cases q:k=0
    ·have B:=hIx (t q)
     have G:((k:Int)==0)=true:=Zo.2 (by omega);have O:=hIx q;clear q t o;go_wp2_with (first|(go_at_call 239;refine(zft _ _).mono ?_;rintro e D ⟨rfl,rfl⟩;rw[A.out])|(at_builtin;refine zaf rfl _ _ rfl w.heap.size _ g rfl (by exact c) (by exact f) _ [32] rfl 1 1 rfl rfl (by omega) ?_;intro v' w2 b m n));exact⟨⟨k+1,g++[32],true,by omega,by go_num,by simp;omega,b,by rw[y.out,C.out,z.out,B.out,Qe (by decide)];simp,λh=>absurd h (by omega),a.out,l.trans m⟩,by simp[intOf];omega⟩
    ·obtain⟨j,rfl⟩:∃j,k=j+1:=⟨k-1,by omega⟩
     have P:j<s.size:=by omega
     have r:=o j P rfl;have G:((j:Int)+1==0)=false:=Qb.2 (by omega);have x:(j:Int)+1-1=j:=by omega
     have K:=hIx x;clear q t o x;cases p with
     |true=>
      have B:=hIx r.symm;clear r;go_wp2_with (first|(go_at_call 239;refine(zft _ _).mono ?_;rintro e D ⟨rfl,rfl⟩;first|rw[A.out]|rw[B.out])|(at_builtin;refine zaf rfl _ _ rfl w.heap.size _ g rfl (by exact c) (by exact f) _ [32] rfl 1 1 rfl rfl (by omega) ?_;intro v' w2 b m n));exact⟨⟨j+2,g,true,by omega,by go_num,by omega,c,by rw[y.out,C.out,z.out];simp,λh=>absurd h (by omega),a.out,l⟩,by simp[intOf];omega⟩
     |false=>
      have B:=hIx r.symm;clear r;go_wp2_with (first|(go_at_call 239;refine(zft _ _).mono ?_;rintro e D ⟨rfl,rfl⟩;first|rw[A.out]|rw[B.out])|(at_builtin;refine zaf rfl _ _ rfl w.heap.size _ g rfl (by exact c) (by exact f) _ [32] rfl 1 1 rfl rfl (by omega) ?_;intro v' w2 b m n));exact⟨⟨j+2,g++[32],true,by omega,by go_num,by simp;omega,b,by rw[y.out,C.out,z.out,Qe (by decide)];simp,λh=>absurd h (by omega),a.out,l.trans m⟩,by simp[intOf];omega⟩
  ·have Q:=c.string
   have L:Hid (zb3 s.data.toList=g):=by unfold Hid;rw[y.out,QN (by rw[N.out];omega)];cases p <;> simp[sqGo]
   clear c;go_wp2;go_ret;exact⟨by rw[L.out];rfl,l⟩
def zy4(s t:ByteArray)(w:World)(v i:Value)(wr:World):Prop:=
 ∃k:Nat,k<=s.size/\i=jA k/\OwnB wr w.heap.size v (outL t.data.toList (s.data.toList.take k))/\w wr
theorem ziZ(s t:ByteArray)(w:World)(D:s.size<=140737488351232):
 Calls prog 240 #[.string s,.string t] w (zbJ (bs (outL t.data.toList s.data.toList)) w):=by
 have y:Hid (s.data.toList.length=s.size):=by unfold Hid;simp
 go_in
 go_wp2
 go_loopw [5,9] (λv i wr=>zy4 s t w v i wr) (λ_ i _=>s.size-(intOf i).toNat)
 case atStart=>exact⟨0,Qm _,rfl,OwnB.nil _ _,Qj _ _⟩
 case round=>
  obtain⟨k,C,rfl,a,b⟩:=hrel;have c:=b.size
  by_cases l:k<s.size
  ·have u:=hIx (zhC s k l)
   have o:(outL t.data.toList (s.data.toList.take k)).length<=(s.data.toList.take k).length:=Zn _ _;have m:(s.data.toList.take k).length<=k:=ZS _ _;have p:(outL t.data.toList (s.data.toList.take k)).length<=k:=by omega
   clear o m;obtain⟨x,j⟩:∃x,Lib.indexByte t.data.toList s[k]=x:=⟨_,rfl⟩
   have r:=hIx j
   have g:Hid (outL t.data.toList (s.data.toList.take (k+1))=outL t.data.toList (s.data.toList.take k)++(if x<0 then [s[k]]else [])):=by
    unfold Hid outL;rw[u.out,ZW]
    congr 1
    by_cases h:x<0
    ·rw[Qg h];simp[j,h]
    ·rw[Qe h];simp[j,h]
   clear j
   by_cases h:x<0
   ·have f:Hid (outL t.data.toList (s.data.toList.take (k+1))=outL t.data.toList (s.data.toList.take k)++[s[k]]):=by unfold Hid;rw[g.out,Qg h]
    go_wp2_with (first|(go_at_call 122;refine(zaT _ _ _).mono ?_;rintro e w' ⟨rfl,rfl⟩;rw[r.out])|(at_builtin;refine zaf rfl _ _ rfl w.heap.size _ (outL t.data.toList (s.data.toList.take k)) rfl (by exact a) (by exact c) _ [s[k]] rfl 1 1 rfl rfl (by omega) ?_;intro v' B d n q));exact⟨⟨k+1,by omega,by go_num,by rw[f.out];exact d,b.trans n⟩,by simp[intOf];omega⟩
   ·have f:Hid (outL t.data.toList (s.data.toList.take (k+1))=outL t.data.toList (s.data.toList.take k)):=by unfold Hid;rw[g.out,Qe h,QE]
    go_wp2_with (go_at_call 122;refine(zaT _ _ _).mono ?_;rintro e w' ⟨rfl,rfl⟩;rw[r.out]);exact⟨⟨k+1,by omega,by go_num,by rw[f.out];exact a,b⟩,by simp[intOf];omega⟩
  ·have z:Hid (s.data.toList.take k=s.data.toList):=QF (by rw[y.out];omega)
   have A:=a.string;clear a;go_wp2;go_ret;exact⟨by show jC (.string (bs (outL t.data.toList (s.data.toList.take k))))=_;rw[z.out],b⟩
theorem zqa(s:ByteArray)(w:World)(b:s.size<=140737488351232):
 Calls prog 197 #[.string s] w (zbJ (bs (outL [0] s.data.toList)) w):=by
 go_in
 go_wp2_with (go_at_call 240;refine(ziZ _ _ _ b).mono ?_;rintro e w' ⟨rfl,a⟩);go_ret;exact⟨rfl,a⟩
def zdW(f:UInt8->UInt8)(k:Nat)(l:jE):jE:=(l.take k).map f++l.drop k
theorem zmI(f:UInt8->UInt8)(k:Nat)(l:jE):(zdW f k l).length=l.length:=by simp[zdW];omega
theorem zoO(f:UInt8->UInt8)(k:Nat)(l:jE)(h:k<l.length)(a:k<(zdW f k l).length):(zdW f k l)[k]=l[k]:=by
 have e:(zdW f k l)[k]? = l[k]? := by
  unfold zdW;rw[Q0 (by simp;omega)];simp[Xn (QX h)]
 rw[Qd a,Qd h]at e;exact QD e
theorem zmf(f:UInt8->UInt8)(k:Nat)(l:jE)(h:k<l.length):(zdW f k l).set k (f l[k])=zdW f (k+1) l:=by
 have a:((l.take k).map f).length=k:=by simp;omega
 unfold zdW;rw[ZH k _ (by omega),a,Xg,Zb h,Za,Qs h,Q2,QG]
 rfl
theorem zp2(f:UInt8->UInt8)(k:Nat)(l:jE)(h:k<l.length)(e:f l[k]=l[k]):zdW f k l=zdW f (k+1) l:=by
 rw[<-zmf f k l h,e];refine(List.ext_getElem (by simp) λi h1 h2=>?_).symm;rw[List.getElem_set]
 split
 ·rename_i a;subst a;rw[zoO f _ _ h]
 ·rfl
theorem zq4(f:UInt8->UInt8)(l:jE):zdW f 0 l=l:=by simp[zdW]
theorem zsT(f:UInt8->UInt8)(k:Nat)(l:jE)(h:l.length<=k):zdW f k l=l.map f:=by
 simp[zdW,QF h,QN h]
theorem zyi(b:UInt8)(r:jE):dsL (b::r)=if b=32/\(r.head? = some 47\/r.head? = some 40)then dsL r else b::dsL r:=by
 cases r with
 |nil=>rw[Qe (by simp)];rfl
 |cons c r=>rw[dsL];simp
def zyt(l:jE)(w:World)(g:Nat)(i:Value)(wr:World):Prop:=
 ∃k:Nat,k<=l.length/\i=jA k/\BytesAt wr g (zdW zbS k l)/\w wr
def zyF(l:jE)(w:World)(v i:Value)(wr:World):Prop:=
 ∃(k:Nat) (a:jE),k<=l.length/\i=jA k/\a.length<=k/\OwnB wr w.heap.size v a/\dsL l=a++dsL (l.drop k)/\w wr
theorem zxE(s:ByteArray)(w:World)(hs:s.size<=140737488351232):
 Calls prog 198 #[.string s] w (zbJ (bs (cmdL s.data.toList)) w):=by
 have N:(outL zgE s.data.toList).length<=s.data.toList.length:=Zn _ _;rw[show s.data.toList.length=s.size by simp]at N;have q:Hid (cmdL s.data.toList=zay (dsL (zb3 ((outL zgE s.data.toList).map zbS)))):=rfl;obtain⟨y,hy⟩:∃y,outL zgE s.data.toList=y:=⟨_,rfl⟩
 have HY:=hIx hy;rw[hy]at N q;clear hy
 go_in
 go_wp2_with (first|(go_at_call 240;refine(ziZ _ _ _ hs).mono ?_;rintro e w1 ⟨rfl,K⟩;rw[show (ByteArray.mk #[92,34,39,94]).data.toList=zgE from rfl,HY.out])|(refine zeb rfl _ 9 140 5 rfl underlying9 underlying140 underlying5 _ rfl ?_;intro c w2 hc t O L));have hg:w.heap.size<=w1.heap.size:=K.size;have D:=K.trans (O.mono hg);rw[zah]at t;have HZ:=hIx L;clear L hc;obtain⟨g,B⟩:∃g,w1.heap.size=g:=⟨_,rfl⟩
 rw[B]at t hg;have hf:=hIx B;simp only[B];clear B O K
 go_loopw [13] (λi wr=>zyt y w g i wr) (λi _=>y.length-(intOf i).toNat)
 case atStart=>exact⟨0,Qm _,rfl,by rw[zq4];exact t,D⟩
 case round=>
  obtain⟨k,hk,rfl,hb,o⟩:=hrel;clear t D;have C:Hid ((zdW zbS k y).length=y.length):=zmI _ _ _
  by_cases u:k<y.length
  ·have hl:k<(zdW zbS k y).length:=by rw[C.out];exact u
   have h8:=hb.cell hl;have hj:=hb.free hl;have S:=zoO zbS k y u hl;rw[S]at h8;have HB:=hIx hb;have he:=(y[k]).toNat_lt;clear hb S
   by_cases J:y[k]=44\/y[k]=59
   ·have I:Hid (zbS y[k]=32):=by unfold Hid zbS;rw[Qg J]
    have n:(((y[k].toNat:Int)==44)=true)\/(((y[k].toNat:Int)==44)=false/\((y[k].toNat:Int)==59)=true):=by
     rcases J with h|h
     ·left;rw[h];decide
     ·right;rw[h];exact⟨by decide,by decide⟩
    clear J
    rcases n with Y|⟨Y,q2⟩
    all_goals
     go_wp2
     refine⟨⟨k+1,by omega,by go_num,?_,o.setCell (p:=⟨g,k,none⟩) hg _⟩,by simp[intOf];omega⟩;rw[<-zmf zbS k _ u,I.out];exact HB.out.set hl 32
   ·have I:Hid (zbS y[k]=y[k]):=by unfold Hid zbS;rw[Qe J]
    have Y:((y[k].toNat:Int)==44)=false:=Qb.2 (λh=>J (.inl (Zs.1 (by show y[k].toNat=44;omega))));have q2:((y[k].toNat:Int)==59)=false:=Qb.2 (λh=>J (.inr (Zs.1 (by show y[k].toNat=59;omega))));clear J
    go_wp2
    refine⟨⟨k+1,by omega,by go_num,?_,o⟩,by simp[intOf];omega⟩;rw[<-zp2 zbS k _ u I.out];exact HB.out
  ·have h4:=zcQ (P:=prog) hb 140 9 5 y.length c (by rw[C.out]) underlying140 underlying5 underlying9
   rw[zsT zbS k y (by omega)]at h4;have H:(y.map zbS).length=y.length:=Qh _;have F:=o.size;clear hb;have h0:(bs (y.map zbS)).size<=140737488351232:=by rw[zae,H];omega
   have G:=zmb (y.map zbS) false;rw[H]at G;obtain⟨z,V⟩:∃z,bs (zb3 (y.map zbS))=z:=⟨_,rfl⟩
   have Q:z.data.toList=zb3 (y.map zbS):=by rw[<-V];rfl
   have hd:z.size<=y.length:=by rw[<-V,zae];exact G
   rw[<-Q]at q;have h6:=hIx V;have m:Hid (z.data.toList.length=z.size):=by unfold Hid;simp
   clear V G H Q;go_wp2_with (go_at_call 196;refine(ziY _ _ h0).mono ?_;rintro e w3 ⟨rfl,h5⟩;rw[zah,h6.out])
   go_loopw [6,33] (λv i wr=>zyF z.data.toList w v i wr) (λ_ i _=>z.size-(intOf i).toNat)
   case atStart=>exact⟨0,[],Qm _,rfl,Qc _,OwnB.nil _ _,rfl,o.trans (h5.mono F)⟩
   case round=>
    obtain⟨a,l,h3,rfl,h9,j,hr,f⟩:=hrel;have b:=f.size;rw[m.out]at h3;have T:=hIx hr;clear hr
    by_cases U:a<z.size
    ·have X:=hIx (zaH z a U)
     have A:=hIx (zyi z[a] (z.data.toList.drop (a+1)));have hi:(a:Int)<(z.size:Int):=by omega
     by_cases c1:z[a]=32
     ·have Y:((z[a].toNat:Int)==32)=true:=by rw[c1];decide
      by_cases c2:a+1<z.size
      ·have W:(z.data.toList.drop (a+1)).head? = some z[a+1]:=by rw[List.head?_drop,Xt z _ c2]
       have q2:(a:Int)+1<(z.size:Int):=by omega
       have i3:0<=(a:Int)+1:=by omega
       have i5:((a:Int)+1).toNat=a+1:=by omega
       by_cases c3:z[a+1]=47\/z[a+1]=40
       ·have x:Hid (dsL (z[a]::z.data.toList.drop (a+1))=dsL (z.data.toList.drop (a+1))):=by
         unfold Hid;rw[A.out,W,Qg ⟨c1,by rcases c3 with h|h;exact .inl (by rw[h]);exact .inr (by rw[h])⟩]
        have n:(((z[a+1].toNat:Int)==47)=true)\/(((z[a+1].toNat:Int)==47)=false/\((z[a+1].toNat:Int)==40)=true):=by
         rcases c3 with h|h
         ·left;rw[h];decide
         ·right;rw[h];exact⟨by decide,by decide⟩
        clear c1 c3 W
        rcases n with q3|⟨q3,q4⟩
        all_goals
         go_wp2;exact⟨⟨a+1,l,by rw[m.out];omega,by go_num,by omega,j,by rw[T.out,X.out,x.out],f⟩,by simp[intOf];omega⟩
       ·have x:Hid (dsL (z[a]::z.data.toList.drop (a+1))=z[a]::dsL (z.data.toList.drop (a+1))):=by
         unfold Hid;rw[A.out,W,Qe (by rintro⟨_,h|h⟩;exact c3 (.inl (QD h));exact c3 (.inr (QD h)))]
        have q3:((z[a+1].toNat:Int)==47)=false:=Qb.2 (λh=>c3 (.inl (Zs.1 (by show z[a+1].toNat=47;omega))));have q4:((z[a+1].toNat:Int)==40)=false:=Qb.2 (λh=>c3 (.inr (Zs.1 (by show z[a+1].toNat=40;omega))));clear c1 c3 W;go_wp2_with (at_builtin;refine zaf rfl _ _ rfl w.heap.size _ l rfl (by exact j) (by exact b) _ [z[a]] rfl 1 1 rfl rfl (by omega) ?_;intro v' w4 d r E);exact⟨⟨a+1,l++[z[a]],by rw[m.out];omega,by go_num,by simp;omega,d,by rw[T.out,X.out,x.out];simp,f.trans r⟩,by simp[intOf];omega⟩
      ·have x:Hid (dsL (z[a]::z.data.toList.drop (a+1))=z[a]::dsL (z.data.toList.drop (a+1))):=by
        unfold Hid;rw[A.out,Qe (by rw[QN (by rw[m.out];omega)];simp)]
       have q2:(z.size:Int)<=(a:Int)+1:=by omega
       clear c1;go_wp2_with (at_builtin;refine zaf rfl _ _ rfl w.heap.size _ l rfl (by exact j) (by exact b) _ [z[a]] rfl 1 1 rfl rfl (by omega) ?_;intro v' w4 d r E);exact⟨⟨a+1,l++[z[a]],by rw[m.out];omega,by go_num,by simp;omega,d,by rw[T.out,X.out,x.out];simp,f.trans r⟩,by simp[intOf];omega⟩
     ·have x:Hid (dsL (z[a]::z.data.toList.drop (a+1))=z[a]::dsL (z.data.toList.drop (a+1))):=by
       unfold Hid;rw[A.out,Qe (λh=>c1 h.1)]
      have Y:((z[a].toNat:Int)==32)=false:=Qb.2 (λh=>c1 (Zs.1 (by show z[a].toNat=32;omega)));clear c1;go_wp2_with (at_builtin;refine zaf rfl _ _ rfl w.heap.size _ l rfl (by exact j) (by exact b) _ [z[a]] rfl 1 1 rfl rfl (by omega) ?_;intro v' w4 d r E);exact⟨⟨a+1,l++[z[a]],by rw[m.out];omega,by go_num,by simp;omega,d,by rw[T.out,X.out,x.out];simp,f.trans r⟩,by simp[intOf];omega⟩
    ·have ha:=j.string
     have x:Hid (dsL z.data.toList=l):=by unfold Hid;rw[T.out,QN (by rw[m.out];omega)];simp[dsL]
     have Z:(bs l).size<=maxLen:=by rw[zae];unfold maxLen;omega
     clear j;go_wp2_with (go_at_call 64;refine(zbd _ _ Z).mono ?_;rintro e w5 ⟨rfl,h7⟩;rw[zah]);go_ret;exact⟨by rw[q.out,x.out];rfl,f.trans (h7.mono b)⟩
theorem zx6(l:jE):(cmdL l).length<=l.length:=by
 have h1:(outL zgE l).length<=l.length:=Zn _ _;have h2:=zmb ((outL zgE l).map zbS) false;have a:=zwF (zb3 ((outL zgE l).map zbS));rw[Qh]at h2;unfold cmdL zay;rw[Qh];unfold zb3 at *;omega
def upP:jE:=[46,46]
def zi7(a:Bool)(left:List jE)(p:jE):List jE:=
 if p=[]\/p=[46]then left else if p=upP then (if left≠[]/\left.getLast? ≠ some upP then left.dropLast else if a=true then left else left++[p])else left++[p]
def zbI(a:Bool)(b:List jE):List jE:=b.foldl (zi7 a) []
def dotP(p:jE):Bool:=decide (p=[]\/p=[46]\/p=upP)
def zlf(left a:List jE):Bool:=decide (left≠[]/\1<a.length)&&dotP (a.getLast?.getD [])
def outP(a:Bool)(left:List jE)(sl:Bool):jE:=(if a=true then [47]else [])++Lib.join left [47]++(if sl=true then [47]else [])
def ztc(s:jE):jE:=outP (s.head? == some 47) (zbI (s.head? == some 47) (splL 47 s)) (zlf (zbI (s.head? == some 47) (splL 47 s)) (splL 47 s))
